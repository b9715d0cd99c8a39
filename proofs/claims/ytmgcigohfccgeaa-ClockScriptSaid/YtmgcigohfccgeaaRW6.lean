/- The document's watch: Names (written by genrnm.py). -/
import Derived.Test.YtmgcigohfccgeaaRW5
import Derived.Test.YtmgcigohfccgeaaLin
namespace Go.Proofs.Ytmgcigohfccgeaa
open Go.RowKit

theorem own_mono {w : World} {b c : Nat} {e : TypeId} {size : Nat} {v : Value} {n : Nat} {xs : List Value} (h : w.ownsRow b e size v n xs) (hc : c ≤ b) : w.ownsRow c e size v n xs := by
  refine ⟨h.1, ?_⟩
  rcases h.2 with hn | ⟨g, cap, cur, rfl, hb, rest⟩
  · exact .inl hn
  · exact .inr ⟨g, cap, cur, rfl, Nat.le_trans hc hb, rest⟩
theorem row_partS {w : World} {base q n c size : Nat} {e : TypeId} {xs : List Value} (h : w.ownsRow base e size (.slice (some ⟨q, 0, none⟩) n c) n xs) (h1 : ∀ u ∈ xs, u.oneCell' = true) {o m c' : Nat} (hm : o + m ≤ n) (hmc : m ≤ c') (hcc : c' ≤ maxLen) (p : Option Addr) (hp : p ≠ none) (hp2 : 0 < m → p = some ⟨q, o * size, none⟩) :
    Row w (.slice p m c') size m ((xs.drop (o * size)).take (m * size)) := by
  have hlen : xs.length = n * size := h.1
  have hos : o * size + m * size ≤ n * size := by rw [← Nat.add_mul]; exact Nat.mul_le_mul_right _ hm
  refine ⟨p, c', rfl, hmc, hcc, by rw [List.length_take, List.length_drop]; omega, fun u hu => h1 u (List.mem_of_mem_drop (List.mem_of_mem_take hu)), fun e => absurd e hp, ?_⟩
  by_cases hm0 : 0 < m
  · refine .inr ⟨q, o * size, hp2 hm0, fun j u hj => own_cell h ?_⟩
    rw [List.getElem?_take] at hj
    split at hj
    · rw [List.getElem?_drop] at hj
      exact hj
    · cases hj
  · refine .inl ?_
    rw [show m = 0 from by omega, Nat.zero_mul, List.take_zero]
def nmI (ns : List ByteArray) (nm : ByteArray) : Nat := ns.findIdx fun y => !Op.bytesLess y.toList nm.toList
def nmIns (ns : List ByteArray) (nm : ByteArray) : List ByteArray := ns.take (nmI ns nm) ++ nm :: ns.drop (nmI ns nm)
def nmS (S : List End) : List ByteArray := S.foldl (fun ns x => nmIns ns x.1) []
theorem nmS_next {S : List End} {i : Nat} (hi : i < S.length) : nmS (S.take (i + 1)) = nmIns (nmS (S.take i)) S[i].1 := by
  unfold nmS
  rw [List.take_succ_eq_append_getElem hi, List.foldl_append]
  rfl
theorem nmIns_len (ns : List ByteArray) (nm : ByteArray) : (nmIns ns nm).length = ns.length + 1 := by
  unfold nmIns
  have : nmI ns nm ≤ ns.length := List.findIdx_le_length
  rw [List.length_append, List.length_cons, List.length_take, List.length_drop]
  omega
theorem nmS_len {S : List End} : ∀ i, i ≤ S.length → (nmS (S.take i)).length = i
  | 0, _ => rfl
  | i + 1, h => by rw [nmS_next (by omega), nmIns_len, nmS_len i (by omega)]
theorem nmI_lt {ns : List ByteArray} {nm : ByteArray} {j : Nat} (h : j < ns.length) (hj : j < nmI ns nm) : Op.bytesLess ns[j].toList nm.toList = true := by
  have := List.not_of_lt_findIdx hj
  simpa using this
theorem nmI_at {ns : List ByteArray} {nm : ByteArray} (h : nmI ns nm < ns.length) : Op.bytesLess ns[nmI ns nm].toList nm.toList = false := by
  have : (fun y : ByteArray => !Op.bytesLess y.toList nm.toList) ns[nmI ns nm] = true := List.findIdx_getElem (w := h)
  simpa using this

set_option maxRecDepth 100000 in
set_option maxHeartbeats 6000000 in
theorem rnames_any (b : Nat) (T : Int) (v : Value) (S : List End) (w : World) (h : RWt w b T v S) (hl : S.length ≤ 700000) :
    Calls Try.prog 56 #[ptr b] w fun e w' => ∃ o, e = .returned o ∧ w'.ownsRow w.heap.size 9 1 o (nmS S).length ((nmS S).map Value.string) ∧ Below w.heap.size w w' := by
  obtain ⟨i0, hi0, hz0, hz1, hz2⟩ := info_parts info_str
  have hml : maxLen ≤ 9223372036854775807 := by decide
  have H := Lib.hid h
  have HL := Lib.hid hl
  obtain ⟨pv, c, rfl, hcb, hcm, -⟩ := h.row
  clear h hl
  go_enter Try.func56, Try.ntmps56
  go_wp2
  go_loopw [3, 4] (fun o i wr => ∃ k : Nat, k ≤ S.length ∧ i = .int .i64 (k : Int) ∧ Hid (wr.ownsRow w.heap.size 9 1 o (nmS (S.take k)).length ((nmS (S.take k)).map Value.string)) ∧ Hid (Below w.heap.size w wr)) (fun _ i _ => S.length - (intOf i).toNat)
  case atStart => exact ⟨0, Nat.zero_le _, rfl, Lib.hid (World.ownsRow_nil _ _ _ _), Lib.hid (Below.refl _ _)⟩
  case round =>
    obtain ⟨i, hik, rfl, HO, HB⟩ := hrel
    have HRw := Lib.hid (H.out.kept HB.out)
    have c1 := HRw.out.blk.cell (j := 1) rfl
    by_cases hlt : i < S.length
    · obtain ⟨g, o, cc, e', -, -, ex, -⟩ := HRw.out.endAt hlt
      simp only [Value.slice.injEq] at e'
      obtain ⟨rfl, -, rfl⟩ := e'
      have i1 : (i : Int) < (S.length : Int) := by omega
      obtain ⟨nm, hnm⟩ : ∃ nm, nm = S[i].1 := ⟨_, rfl⟩
      rw [← hnm] at ex
      obtain ⟨ns, hns⟩ : ∃ ns, ns = nmS (S.take i) := ⟨_, rfl⟩
      have hnl : ns.length = i := by rw [hns]; exact nmS_len i hik
      have HNL : Hid (ns.length ≤ 700000) := Lib.hid (by have := HL.out; omega)
      have HNX0 : Hid (nmS (S.take (i + 1)) = nmIns ns nm) := Lib.hid (by rw [nmS_next hlt, ← hns, ← hnm])
      rw [← hns] at HO
      have ns_one : ∀ u ∈ ns.map Value.string, u.oneCell' = true := fun u hu => by obtain ⟨y, -, rfl⟩ := List.mem_map.1 hu; rfl
      obtain ⟨p3, c3, rfl, hc3, hcm3⟩ := own_slice HO.out
      have HEX := Lib.hid ex
      clear hnm hns hnl ex
      obtain ⟨wA, hwA⟩ : ∃ x, x = wr := ⟨_, rfl⟩
      rw [← hwA] at HO HB HRw c1 HEX ⊢
      clear hwA
      go_wp2
      go_loopw [5] (fun x wm => ∃ j : Nat, j ≤ nmI ns nm ∧ x = .int .i64 (j : Int) ∧ Hid (Below wA.heap.size wA wm)) (fun x _ => nmI ns nm - (intOf x).toNat)
      case atStart => exact ⟨0, Nat.zero_le _, rfl, Lib.hid (Below.refl _ _)⟩
      case round =>
        obtain ⟨j, hj, rfl, HBm⟩ := hrel
        have HNm := Lib.hid (own_fr HO.out (Fr.of_below HBm.out []) (fun _ _ => by simp))
        have HRm := Lib.hid (HRw.out.kept HBm.out)
        have x4 : ∀ y : Past wr, y.val.cell? ⟨b, 1, none⟩ = some (.slice (some ⟨g, o, none⟩) S.length c) := Past.blk HRm.out.blk (j := 1) rfl
        have x0 : ∀ y : Past wr, y.val.cell? ⟨g, o + i * 2, none⟩ = some (.string nm) := Past.cell (cell_kept HEX.out HBm.out)
        by_cases hlt2 : j < nmI ns nm
        · have hjl : j < ns.length := Nat.lt_of_lt_of_le hlt2 List.findIdx_le_length
          obtain ⟨q0, c4, e4, -, -, -⟩ := own_block HO.out (by omega)
          simp only [Value.slice.injEq] at e4
          obtain ⟨rfl, -, rfl⟩ := e4
          have t0 := nmI_lt hjl hlt2
          obtain ⟨yj, hyj⟩ : ∃ yj, yj = ns[j] := ⟨_, rfl⟩
          have t1 : Op.bytesLess yj.toList nm.toList = true := by rw [hyj]; exact t0
          have y0 : ∀ y : Past wr, y.val.cell? ⟨q0, j, none⟩ = some (.string yj) := Past.cell (own_cell HNm.out (by rw [hyj]; simp [hjl]))
          have i2 : (j : Int) < (ns.length : Int) := by omega
          clear t0 hyj
          go_wp2
          refine wp_region_past (by kernel_rfl) (by kernel_rfl) ?_
          repeat (go_big_quiet_step (fail))
          refine wpQuiet_nil ?_
          intro _ hw'
          obtain ⟨s9, hw''⟩ := hw'
          subst hw''
          obtain ⟨w9, h9, e9⟩ : ∃ w9, Below wr.heap.size wr w9 ∧ w9 = s9.val := ⟨_, s9.h, rfl⟩
          rw [← e9]
          have HB9 := Lib.hid (below_and HBm.out h9)
          clear h9 e9 x0 x4 y0
          go_wp2
          go_roundw
          case rel => exact ⟨j + 1, hlt2, by go_num, HB9⟩
          case measure => simp [intOf]; omega
        · have hkj : j = nmI ns nm := by omega
          have HJ : Hid (j ≤ ns.length) := Lib.hid (by rw [hkj]; exact List.findIdx_le_length)
          have HNX : Hid (nmS (S.take (i + 1)) = ns.take j ++ nm :: ns.drop j) := Lib.hid (by rw [HNX0.out, hkj]; rfl)
          have HEN : Hid (∀ h : j < ns.length, Op.bytesLess ns[j].toList nm.toList = false) := Lib.hid (fun h => by subst hkj; exact nmI_at h)
          clear hj hlt2 hkj
          rcases HO.out.2 with ⟨hv, hn0⟩ | ⟨q0, c4, cur, hv, -⟩
          · obtain rfl : ns = [] := List.length_eq_zero_iff.1 hn0
            obtain rfl : j = 0 := by have := HJ.out; simpa using this
            simp only [Value.slice.injEq] at hv
            obtain ⟨rfl, -, rfl⟩ := hv
            go_wp2
            refine wp_region_past (by kernel_rfl) (by kernel_rfl) ?_
            repeat (go_big_quiet_step (fail))
            refine wpQuiet_nil ?_
            intro _ hw'
            obtain ⟨s9, hw''⟩ := hw'
            subst hw''
            obtain ⟨w9, h9, e9⟩ : ∃ w9, Below wr.heap.size wr w9 ∧ w9 = s9.val := ⟨_, s9.h, rfl⟩
            rw [← e9]
            have f1 : w9.cell? ⟨b, 1, none⟩ = some (.slice (some ⟨g, o, none⟩) S.length c) := (HRm.out.kept h9).blk.cell (j := 1) rfl
            have f2 : w9.cell? ⟨g, o + i * 2, none⟩ = some (.string nm) := cell_kept (cell_kept HEX.out HBm.out) h9
            have HN9 := Lib.hid (own_fr HNm.out (Fr.of_below h9 []) (fun _ _ => by simp))
            have HBW : Hid (Below w.heap.size w w9) := Lib.hid (below_and HB.out (below_and HBm.out h9))
            clear h9 e9 x0 x4
            go_upto_region 8 with fail
            refine wp_region_noPanic ?_
            refine wp_region_held_drew (S := fun w' => w'.cell? ⟨b, 1, none⟩ = some (.slice (some ⟨g, o, none⟩) S.length c) ∧ w'.cell? ⟨g, o + i * 2, none⟩ = some (.string nm) ∧ Below w9.heap.size w9 w') (by kernel_rfl) ⟨f1, f2, below_drewN 1⟩ (fun hHeld => ?_)
            have HB1 : Hid (Below w9.heap.size w9 w9.drew) := Lib.hid (below_drewN 1)
            have hS1 : True := trivial
            obtain ⟨wd1, hwd⟩ : ∃ x, x = w9.drew := ⟨_, rfl⟩
            rw [← hwd] at hHeld HB1 ⊢
            clear hwd
            refine wpAnyH_take (i := 1) (v := ?v2) rfl (by kernel_rfl) (by kernel_rfl) (by kernel_rfl) (fun _ _ _ h => h) (Or.inl ⟨by rfl, ?hy2⟩) (by assumption) ?rest2
            case hy2 => (intro _ hSw; (try dsimp only at hSw); go_simp; (try with_reducible rfl))
            (try simp only [Act.put]); (try simp only [List.setIfInBounds_toArray]); (try simp only [List.set_cons_succ]); (try simp only [List.set_cons_zero])
            refine wpAnyH_take (i := 2) (v := ?v3) rfl (by kernel_rfl) (by kernel_rfl) (by kernel_rfl) (fun _ _ _ h => h) (Or.inl ⟨by rfl, ?hy3⟩) (by assumption) ?rest3
            case hy3 => (intro _ hSw; (try dsimp only at hSw); go_simp; (try with_reducible rfl))
            (try simp only [Act.put]); (try simp only [List.setIfInBounds_toArray]); (try simp only [List.set_cons_succ]); (try simp only [List.set_cons_zero])
            refine wpAnyH_take (i := 3) (v := ?v4) rfl (by kernel_rfl) (by kernel_rfl) (by kernel_rfl) (fun _ _ _ h => h) (Or.inl ⟨by rfl, ?hy4⟩) (by assumption) ?rest4
            case hy4 => (intro _ hSw; (try dsimp only at hSw); go_simp; (try with_reducible rfl))
            (try simp only [Act.put]); (try simp only [List.setIfInBounds_toArray]); (try simp only [List.set_cons_succ]); (try simp only [List.set_cons_zero])
            refine wpAnyH_take (i := 5) (v := ?v5) rfl (by kernel_rfl) (by kernel_rfl) (by kernel_rfl) (fun _ _ _ h => h) (Or.inl ⟨by rfl, ?hy5⟩) (by assumption) ?rest5
            case hy5 => (intro _ hSw; (try dsimp only at hSw); go_simp; (try with_reducible rfl))
            (try simp only [Act.put]); (try simp only [List.setIfInBounds_toArray]); (try simp only [List.set_cons_succ]); (try simp only [List.set_cons_zero])
            refine wpAnyH_take (i := 6) (v := ?v6) rfl (by kernel_rfl) (by kernel_rfl) (by kernel_rfl) (fun _ _ _ h => h) (Or.inl ⟨by rfl, ?hy6⟩) (by assumption) ?rest6
            case hy6 => (intro _ hSw; (try dsimp only at hSw); go_simp; (try with_reducible rfl))
            (try simp only [Act.put]); (try simp only [List.setIfInBounds_toArray]); (try simp only [List.set_cons_succ]); (try simp only [List.set_cons_zero])
            refine wpAnyH_take (i := 7) (v := ?v7) rfl (by kernel_rfl) (by kernel_rfl) (by kernel_rfl) (fun _ _ _ h => h) (Or.inl ⟨by rfl, ?hy7⟩) (by assumption) ?rest7
            case hy7 => (intro _ hSw; (try dsimp only at hSw); go_simp; (try with_reducible rfl))
            (try simp only [Act.put]); (try simp only [List.setIfInBounds_toArray]); (try simp only [List.set_cons_succ]); (try simp only [List.set_cons_zero])
            refine wpAnyH_take (i := 8) (v := ?v8) rfl (by kernel_rfl) (by kernel_rfl) (by kernel_rfl) (fun _ _ _ h => h) (Or.inl ⟨by rfl, ?hy8⟩) (by assumption) ?rest8
            case hy8 => (intro _ hSw; (try dsimp only at hSw); go_simp; (try with_reducible rfl))
            (try simp only [Act.put]); (try simp only [List.setIfInBounds_toArray]); (try simp only [List.set_cons_succ]); (try simp only [List.set_cons_zero])
            refine wpAnyH_take (i := 9) (v := ?v9) rfl (by kernel_rfl) (by kernel_rfl) (by kernel_rfl) (fun _ _ _ h => h) (Or.inl ⟨by rfl, ?hy9⟩) (by assumption) ?rest9
            case hy9 => (intro _ hSw; (try dsimp only at hSw); go_simp; (try with_reducible rfl))
            (try simp only [Act.put]); (try simp only [List.setIfInBounds_toArray]); (try simp only [List.set_cons_succ]); (try simp only [List.set_cons_zero])
            refine wpAnyH_take (i := 10) (v := ?v10) rfl (by kernel_rfl) (by kernel_rfl) (by kernel_rfl) (fun _ _ _ h => h) (Or.inl ⟨by rfl, ?hy10⟩) (by assumption) ?rest10
            case hy10 => (intro _ hSw; (try dsimp only at hSw); go_simp; (try with_reducible rfl))
            (try simp only [Act.put]); (try simp only [List.setIfInBounds_toArray]); (try simp only [List.set_cons_succ]); (try simp only [List.set_cons_zero])
            refine wpAnyH_take (i := 11) (v := ?v11) rfl (by kernel_rfl) (by kernel_rfl) (by kernel_rfl) (fun _ _ _ h => h) (Or.inl ⟨by rfl, ?hy11⟩) (by assumption) ?rest11
            case hy11 => (intro _ hSw; (try dsimp only at hSw); go_simp; (try with_reducible rfl))
            (try simp only [Act.put]); (try simp only [List.setIfInBounds_toArray]); (try simp only [List.set_cons_succ]); (try simp only [List.set_cons_zero])
            refine wpAnyH_take (i := 12) (v := ?v12) rfl (by kernel_rfl) (by kernel_rfl) (by kernel_rfl) (fun _ _ _ h => h) (Or.inl ⟨by rfl, ?hy12⟩) (by assumption) ?rest12
            case hy12 => (intro _ hSw; (try dsimp only at hSw); go_simp; (try with_reducible rfl))
            (try simp only [Act.put]); (try simp only [List.setIfInBounds_toArray]); (try simp only [List.set_cons_succ]); (try simp only [List.set_cons_zero])
            refine wpAnyH_take (i := 15) (v := ?v13) rfl (by kernel_rfl) (by kernel_rfl) (by kernel_rfl) (fun _ _ _ h => h) (Or.inl ⟨by rfl, ?hy13⟩) (by assumption) ?rest13
            case hy13 => (intro _ hSw; (try dsimp only at hSw); go_simp; (try with_reducible rfl))
            (try simp only [Act.put]); (try simp only [List.setIfInBounds_toArray]); (try simp only [List.set_cons_succ]); (try simp only [List.set_cons_zero])
            refine wpAnyH_take (i := 16) (v := ?v14) rfl (by kernel_rfl) (by kernel_rfl) (by kernel_rfl) (fun _ _ _ h => h) (Or.inl ⟨by rfl, ?hy14⟩) (by assumption) ?rest14
            case hy14 => (intro _ hSw; (try dsimp only at hSw); go_simp; (try with_reducible rfl))
            (try simp only [Act.put]); (try simp only [List.setIfInBounds_toArray]); (try simp only [List.set_cons_succ]); (try simp only [List.set_cons_zero])
            refine wpAnyH_take (i := 17) (v := ?v15) rfl (by kernel_rfl) (by kernel_rfl) (by kernel_rfl) (fun _ _ _ h => h) (Or.inl ⟨by rfl, ?hy15⟩) (by assumption) ?rest15
            case hy15 => (intro _ hSw; (try dsimp only at hSw); go_simp; (try with_reducible rfl))
            (try simp only [Act.put]); (try simp only [List.setIfInBounds_toArray]); (try simp only [List.set_cons_succ]); (try simp only [List.set_cons_zero])
            refine wpAnyH_ready (rs := [0, 13]) (by kernel_rfl) (by simp) ?_
            refine (AllReadyH.cons rfl (fun K hK => ?_) (AllReadyH.cons rfl (fun K hK => ?_) AllReadyH.nil))
            · (try simp only [List.getElem_toArray]); (try simp only [List.getElem_cons_succ]); (try simp only [List.getElem_cons_zero])
              go_simp
              obtain ⟨w16x, hw16⟩ : ∃ x, x = wd1.alloc (.cells #[] 9) := ⟨_, rfl⟩
              obtain ⟨z16, hz16⟩ : ∃ x, x = wd1.heap.size := ⟨_, rfl⟩
              have hn16 : Below wd1.heap.size wd1 w16x := by rw [hw16]; exact below_alloc _ _
              have hb16 : Below w9.heap.size w9 w16x := below_and HB1.out hn16
              have HB16 := Lib.hid hb16
              have HO16 : Hid (w16x.ownsRow w9.heap.size 9 1 (.slice (some ⟨z16, 0, none⟩) 0 0) 0 []) := Lib.hid (by rw [hw16, hz16]; exact World.ownsRow_made wd1 #[] 0 HB1.out.size (by decide) rfl)
              rw [← hw16, ← hz16]
              refine hK.out _ _ ⟨cell_kept f1 hb16, cell_kept f2 hb16, hb16⟩ (fun hS16 => ?_)
              clear hK K hb16 hw16 hz16 hn16 hS1
              (try simp only [Act.put]); (try simp only [List.setIfInBounds_toArray]); (try simp only [List.set_cons_succ]); (try simp only [List.set_cons_zero])
              refine wpAnyH_ready (rs := [4, 13]) (by kernel_rfl) (by simp) ?_
              refine (AllReadyH.cons rfl (fun K hK => ?_) (AllReadyH.cons rfl (fun K hK => ?_) AllReadyH.nil))
              · refine step_app rfl (.tmp 36) (.tmp 39) 44 44 rfl w9.heap.size 9 i0 (.string ⟨#[]⟩) 1 16 Try.underlying44 hi0 hz0 hz1 hz2 rfl (.slice (some ⟨z16, 0, none⟩) 0 0) 0 [] (by rfl) HO16.out (.slice none 0 0) 0 ((([] : List ByteArray).take 0).map Value.string) (by rfl) (Row.src Try.underlying44 (row_nil _ 1)) (by have := HNL.out; have := HJ.out; unfold maxLen; omega) (by have := HNL.out; have := HJ.out; omega) HB16.out.size ?_
                intro v17 w17x ho17 hg17 hn17 hk17
                have HO17 : Hid (w17x.ownsRow w9.heap.size 9 1 v17 0 ((([] : List ByteArray).take 0).map Value.string)) := Lib.hid (by simpa using ho17)
                have hb17 : Below w9.heap.size w9 w17x := HB16.out.trans ((Fr.of_grown hg17).below (by intro y hy; exact own_base HO16.out (Option.mem_toList.1 hy)) HB16.out.size)
                have HB17 := Lib.hid hb17
                refine hK.out _ _ ⟨cell_kept f1 hb17, cell_kept f2 hb17, hb17⟩ (fun hS17 => ?_)
                clear hK K hb17 ho17 hg17 hn17 hk17 hS16
                (try simp only [Act.put]); (try simp only [List.setIfInBounds_toArray]); (try simp only [List.set_cons_succ]); (try simp only [List.set_cons_zero])
                refine wpAnyH_ready (rs := [13]) (by kernel_rfl) (by simp) ?_
                refine (AllReadyH.cons rfl (fun K hK => ?_) AllReadyH.nil)
                (try simp only [List.getElem_toArray]); (try simp only [List.getElem_cons_succ]); (try simp only [List.getElem_cons_zero])
                go_simp
                obtain ⟨w18x, hw18⟩ : ∃ x, x = w17x.alloc (.cells #[.string nm] 9) := ⟨_, rfl⟩
                obtain ⟨z18, hz18⟩ : ∃ x, x = w17x.heap.size := ⟨_, rfl⟩
                have hn18 : Below w17x.heap.size w17x w18x := by rw [hw18]; exact below_alloc _ _
                have hb18 : Below w9.heap.size w9 w18x := below_and HB17.out hn18
                have HB18 := Lib.hid hb18
                have HY18 : Hid (Blk w18x z18 [.string nm] 9) := Lib.hid (by rw [hw18, hz18]; exact Blk.made w17x [.string nm] _)
                have HO18 := Lib.hid (own_fr HO17.out (Fr.of_below hn18 []) (fun _ _ => by simp))
                have HNE18 : Hid (∀ q, (v17 : Value).ownBlock = some q → q ≠ z18) := Lib.hid (fun q hq => by have := own_lt HO17.out hq; omega)
                rw [← hw18, ← hz18]
                refine hK.out _ _ ⟨cell_kept f1 hb18, cell_kept f2 hb18, hb18⟩ (fun hS18 => ?_)
                clear hK K hb18 hw18 hz18 hn18 hS17
                (try simp only [Act.put]); (try simp only [List.setIfInBounds_toArray]); (try simp only [List.set_cons_succ]); (try simp only [List.set_cons_zero])
                refine wpAnyH_ready (rs := [14]) (by kernel_rfl) (by simp) ?_
                refine (AllReadyH.cons rfl (fun K hK => ?_) AllReadyH.nil)
                refine step_app rfl (.tmp 40) (.tmp 49) 44 44 rfl w9.heap.size 9 i0 (.string ⟨#[]⟩) 1 16 Try.underlying44 hi0 hz0 hz1 hz2 rfl v17 0 ((([] : List ByteArray).take 0).map Value.string) (by rfl) HO18.out (.slice (some ⟨z18, 0, none⟩) 1 1) 1 [.string nm] (by rfl) (src_block Try.underlying44 _ z18 #[.string nm] HY18.out rfl (by simp [Value.oneCell'])) (by have := HNL.out; have := HJ.out; unfold maxLen; omega) (by have := HNL.out; have := HJ.out; omega) HB18.out.size ?_
                intro v19 w19x ho19 hg19 hn19 hk19
                have HO19 : Hid (w19x.ownsRow w9.heap.size 9 1 v19 (0 + 1) (((([] : List ByteArray).take 0).map Value.string) ++ [.string nm])) := Lib.hid (ho19)
                have hb19 : Below w9.heap.size w9 w19x := HB18.out.trans ((Fr.of_grown hg19).below (by intro y hy; exact own_base HO18.out (Option.mem_toList.1 hy)) HB18.out.size)
                have HB19 := Lib.hid hb19
                refine hK.out _ _ ⟨cell_kept f1 hb19, cell_kept f2 hb19, hb19⟩ (fun hS19 => ?_)
                clear hK K hb19 ho19 hg19 hn19 hk19 hS18
                (try simp only [Act.put]); (try simp only [List.setIfInBounds_toArray]); (try simp only [List.set_cons_succ]); (try simp only [List.set_cons_zero])
                refine wpAnyH_ready (rs := [18]) (by kernel_rfl) (by simp) ?_
                refine (AllReadyH.cons rfl (fun K hK => ?_) AllReadyH.nil)
                refine step_app rfl (.tmp 50) (.tmp 53) 44 44 rfl w9.heap.size 9 i0 (.string ⟨#[]⟩) 1 16 Try.underlying44 hi0 hz0 hz1 hz2 rfl v19 (0 + 1) (((([] : List ByteArray).take 0).map Value.string) ++ [.string nm]) (by rfl) HO19.out (.slice none 0 0) (([] : List ByteArray).length - 0) ((([] : List ByteArray).drop 0).map Value.string) (by rfl) (Row.src Try.underlying44 (row_nil _ 1)) (by have := HNL.out; have := HJ.out; unfold maxLen; omega) (by have := HNL.out; have := HJ.out; omega) HB19.out.size ?_
                intro v20 w20x ho20 hg20 hn20 hk20
                have HO20 : Hid (w20x.ownsRow w9.heap.size 9 1 v20 (0 + 1 + (([] : List ByteArray).length - 0)) (((([] : List ByteArray).take 0).map Value.string) ++ [.string nm] ++ ((([] : List ByteArray).drop 0).map Value.string))) := Lib.hid (ho20)
                have hb20 : Below w9.heap.size w9 w20x := HB19.out.trans ((Fr.of_grown hg20).below (by intro y hy; exact own_base HO19.out (Option.mem_toList.1 hy)) HB19.out.size)
                have HB20 := Lib.hid hb20
                refine hK.out _ _ ⟨cell_kept f1 hb20, cell_kept f2 hb20, hb20⟩ (fun hS20 => ?_)
                clear hK K hb20 ho20 hg20 hn20 hk20 hS19
                (try simp only [Act.put]); (try simp only [List.setIfInBounds_toArray]); (try simp only [List.set_cons_succ]); (try simp only [List.set_cons_zero])
                refine wpAnyH_take (i := 19) (v := ?v21) rfl (by kernel_rfl) (by kernel_rfl) (by kernel_rfl) (fun _ _ _ h => h) (Or.inl ⟨by rfl, ?hy21⟩) (by assumption) ?rest21
                case hy21 => (intro _ hSw; (try dsimp only at hSw); go_simp; (try with_reducible rfl))
                (try simp only [Act.put]); (try simp only [List.setIfInBounds_toArray]); (try simp only [List.set_cons_succ]); (try simp only [List.set_cons_zero])
                refine wpAnyH_done (by kernel_rfl) ?_ _
                refine NoPanic.normal ?_
                clear hS20 hHeld
                have HW20 : Hid (Below w.heap.size w w20x) := Lib.hid (below_and HBW.out HB20.out)
                have HE20 : Hid (w20x.ownsRow w.heap.size 9 1 v20 (nmS (S.take (i + 1))).length ((nmS (S.take (i + 1))).map Value.string)) := Lib.hid (by
                  have ho := own_mono HO20.out HBW.out.size
                  rw [HNX.out]
                  have e1 : ((([] : List ByteArray).take 0).map Value.string) ++ [Value.string nm] ++ ((([] : List ByteArray).drop 0).map Value.string) = ((([] : List ByteArray).take 0 ++ nm :: ([] : List ByteArray).drop 0).map Value.string) := by simp
                  have e2 : 0 + 1 + (([] : List ByteArray).length - 0) = (([] : List ByteArray).take 0 ++ nm :: ([] : List ByteArray).drop 0).length := by have := HJ.out; rw [List.length_append, List.length_cons, List.length_take, List.length_drop]; omega
                  rw [e1, e2] at ho
                  exact ho)
                go_wp2
                go_roundw
                case rel => exact ⟨i + 1, hlt, by go_num, HE20, HW20⟩
                case measure => simp [intOf]; omega
              · (try simp only [List.getElem_toArray]); (try simp only [List.getElem_cons_succ]); (try simp only [List.getElem_cons_zero])
                go_simp
                obtain ⟨w22x, hw22⟩ : ∃ x, x = w16x.alloc (.cells #[.string nm] 9) := ⟨_, rfl⟩
                obtain ⟨z22, hz22⟩ : ∃ x, x = w16x.heap.size := ⟨_, rfl⟩
                have hn22 : Below w16x.heap.size w16x w22x := by rw [hw22]; exact below_alloc _ _
                have hb22 : Below w9.heap.size w9 w22x := below_and HB16.out hn22
                have HB22 := Lib.hid hb22
                have HY22 : Hid (Blk w22x z22 [.string nm] 9) := Lib.hid (by rw [hw22, hz22]; exact Blk.made w16x [.string nm] _)
                have HO22 := Lib.hid (own_fr HO16.out (Fr.of_below hn22 []) (fun _ _ => by simp))
                have HNE22 : Hid (∀ q, ((.slice (some ⟨z16, 0, none⟩) 0 0) : Value).ownBlock = some q → q ≠ z22) := Lib.hid (fun q hq => by have := own_lt HO16.out hq; omega)
                rw [← hw22, ← hz22]
                refine hK.out _ _ ⟨cell_kept f1 hb22, cell_kept f2 hb22, hb22⟩ (fun hS22 => ?_)
                clear hK K hb22 hw22 hz22 hn22 hS16
                (try simp only [Act.put]); (try simp only [List.setIfInBounds_toArray]); (try simp only [List.set_cons_succ]); (try simp only [List.set_cons_zero])
                refine wpAnyH_ready (rs := [4]) (by kernel_rfl) (by simp) ?_
                refine (AllReadyH.cons rfl (fun K hK => ?_) AllReadyH.nil)
                refine step_app rfl (.tmp 36) (.tmp 39) 44 44 rfl w9.heap.size 9 i0 (.string ⟨#[]⟩) 1 16 Try.underlying44 hi0 hz0 hz1 hz2 rfl (.slice (some ⟨z16, 0, none⟩) 0 0) 0 [] (by rfl) HO22.out (.slice none 0 0) 0 ((([] : List ByteArray).take 0).map Value.string) (by rfl) (Row.src Try.underlying44 (row_nil _ 1)) (by have := HNL.out; have := HJ.out; unfold maxLen; omega) (by have := HNL.out; have := HJ.out; omega) HB22.out.size ?_
                intro v23 w23x ho23 hg23 hn23 hk23
                have HO23 : Hid (w23x.ownsRow w9.heap.size 9 1 v23 0 ((([] : List ByteArray).take 0).map Value.string)) := Lib.hid (by simpa using ho23)
                have hb23 : Below w9.heap.size w9 w23x := HB22.out.trans ((Fr.of_grown hg23).below (by intro y hy; exact own_base HO22.out (Option.mem_toList.1 hy)) HB22.out.size)
                have HB23 := Lib.hid hb23
                have HY23 := Lib.hid (HY22.out.fr (Fr.of_grown hg23) (fun hm => HNE22.out _ (Option.mem_toList.1 hm) rfl))
                have HNE23 : Hid (∀ q, v23.ownBlock = some q → q ≠ z22) := Lib.hid (fun q hq => by rcases hk23 q hq with h1 | h1; exact HNE22.out q h1; have := HY22.out.lt; omega)
                refine hK.out _ _ ⟨cell_kept f1 hb23, cell_kept f2 hb23, hb23⟩ (fun hS23 => ?_)
                clear hK K hb23 ho23 hg23 hn23 hk23 hS22
                (try simp only [Act.put]); (try simp only [List.setIfInBounds_toArray]); (try simp only [List.set_cons_succ]); (try simp only [List.set_cons_zero])
                refine wpAnyH_ready (rs := [14]) (by kernel_rfl) (by simp) ?_
                refine (AllReadyH.cons rfl (fun K hK => ?_) AllReadyH.nil)
                refine step_app rfl (.tmp 40) (.tmp 49) 44 44 rfl w9.heap.size 9 i0 (.string ⟨#[]⟩) 1 16 Try.underlying44 hi0 hz0 hz1 hz2 rfl v23 0 ((([] : List ByteArray).take 0).map Value.string) (by rfl) HO23.out (.slice (some ⟨z22, 0, none⟩) 1 1) 1 [.string nm] (by rfl) (src_block Try.underlying44 _ z22 #[.string nm] HY23.out rfl (by simp [Value.oneCell'])) (by have := HNL.out; have := HJ.out; unfold maxLen; omega) (by have := HNL.out; have := HJ.out; omega) HB23.out.size ?_
                intro v24 w24x ho24 hg24 hn24 hk24
                have HO24 : Hid (w24x.ownsRow w9.heap.size 9 1 v24 (0 + 1) (((([] : List ByteArray).take 0).map Value.string) ++ [.string nm])) := Lib.hid (ho24)
                have hb24 : Below w9.heap.size w9 w24x := HB23.out.trans ((Fr.of_grown hg24).below (by intro y hy; exact own_base HO23.out (Option.mem_toList.1 hy)) HB23.out.size)
                have HB24 := Lib.hid hb24
                refine hK.out _ _ ⟨cell_kept f1 hb24, cell_kept f2 hb24, hb24⟩ (fun hS24 => ?_)
                clear hK K hb24 ho24 hg24 hn24 hk24 hS23
                (try simp only [Act.put]); (try simp only [List.setIfInBounds_toArray]); (try simp only [List.set_cons_succ]); (try simp only [List.set_cons_zero])
                refine wpAnyH_ready (rs := [18]) (by kernel_rfl) (by simp) ?_
                refine (AllReadyH.cons rfl (fun K hK => ?_) AllReadyH.nil)
                refine step_app rfl (.tmp 50) (.tmp 53) 44 44 rfl w9.heap.size 9 i0 (.string ⟨#[]⟩) 1 16 Try.underlying44 hi0 hz0 hz1 hz2 rfl v24 (0 + 1) (((([] : List ByteArray).take 0).map Value.string) ++ [.string nm]) (by rfl) HO24.out (.slice none 0 0) (([] : List ByteArray).length - 0) ((([] : List ByteArray).drop 0).map Value.string) (by rfl) (Row.src Try.underlying44 (row_nil _ 1)) (by have := HNL.out; have := HJ.out; unfold maxLen; omega) (by have := HNL.out; have := HJ.out; omega) HB24.out.size ?_
                intro v25 w25x ho25 hg25 hn25 hk25
                have HO25 : Hid (w25x.ownsRow w9.heap.size 9 1 v25 (0 + 1 + (([] : List ByteArray).length - 0)) (((([] : List ByteArray).take 0).map Value.string) ++ [.string nm] ++ ((([] : List ByteArray).drop 0).map Value.string))) := Lib.hid (ho25)
                have hb25 : Below w9.heap.size w9 w25x := HB24.out.trans ((Fr.of_grown hg25).below (by intro y hy; exact own_base HO24.out (Option.mem_toList.1 hy)) HB24.out.size)
                have HB25 := Lib.hid hb25
                refine hK.out _ _ ⟨cell_kept f1 hb25, cell_kept f2 hb25, hb25⟩ (fun hS25 => ?_)
                clear hK K hb25 ho25 hg25 hn25 hk25 hS24
                (try simp only [Act.put]); (try simp only [List.setIfInBounds_toArray]); (try simp only [List.set_cons_succ]); (try simp only [List.set_cons_zero])
                refine wpAnyH_take (i := 19) (v := ?v26) rfl (by kernel_rfl) (by kernel_rfl) (by kernel_rfl) (fun _ _ _ h => h) (Or.inl ⟨by rfl, ?hy26⟩) (by assumption) ?rest26
                case hy26 => (intro _ hSw; (try dsimp only at hSw); go_simp; (try with_reducible rfl))
                (try simp only [Act.put]); (try simp only [List.setIfInBounds_toArray]); (try simp only [List.set_cons_succ]); (try simp only [List.set_cons_zero])
                refine wpAnyH_done (by kernel_rfl) ?_ _
                refine NoPanic.normal ?_
                clear hS25 hHeld
                have HW25 : Hid (Below w.heap.size w w25x) := Lib.hid (below_and HBW.out HB25.out)
                have HE25 : Hid (w25x.ownsRow w.heap.size 9 1 v25 (nmS (S.take (i + 1))).length ((nmS (S.take (i + 1))).map Value.string)) := Lib.hid (by
                  have ho := own_mono HO25.out HBW.out.size
                  rw [HNX.out]
                  have e1 : ((([] : List ByteArray).take 0).map Value.string) ++ [Value.string nm] ++ ((([] : List ByteArray).drop 0).map Value.string) = ((([] : List ByteArray).take 0 ++ nm :: ([] : List ByteArray).drop 0).map Value.string) := by simp
                  have e2 : 0 + 1 + (([] : List ByteArray).length - 0) = (([] : List ByteArray).take 0 ++ nm :: ([] : List ByteArray).drop 0).length := by have := HJ.out; rw [List.length_append, List.length_cons, List.length_take, List.length_drop]; omega
                  rw [e1, e2] at ho
                  exact ho)
                go_wp2
                go_roundw
                case rel => exact ⟨i + 1, hlt, by go_num, HE25, HW25⟩
                case measure => simp [intOf]; omega
            · (try simp only [List.getElem_toArray]); (try simp only [List.getElem_cons_succ]); (try simp only [List.getElem_cons_zero])
              go_simp
              obtain ⟨w27x, hw27⟩ : ∃ x, x = wd1.alloc (.cells #[.string nm] 9) := ⟨_, rfl⟩
              obtain ⟨z27, hz27⟩ : ∃ x, x = wd1.heap.size := ⟨_, rfl⟩
              have hn27 : Below wd1.heap.size wd1 w27x := by rw [hw27]; exact below_alloc _ _
              have hb27 : Below w9.heap.size w9 w27x := below_and HB1.out hn27
              have HB27 := Lib.hid hb27
              have HY27 : Hid (Blk w27x z27 [.string nm] 9) := Lib.hid (by rw [hw27, hz27]; exact Blk.made wd1 [.string nm] _)
              rw [← hw27, ← hz27]
              refine hK.out _ _ ⟨cell_kept f1 hb27, cell_kept f2 hb27, hb27⟩ (fun hS27 => ?_)
              clear hK K hb27 hw27 hz27 hn27 hS1
              (try simp only [Act.put]); (try simp only [List.setIfInBounds_toArray]); (try simp only [List.set_cons_succ]); (try simp only [List.set_cons_zero])
              refine wpAnyH_ready (rs := [0]) (by kernel_rfl) (by simp) ?_
              refine (AllReadyH.cons rfl (fun K hK => ?_) AllReadyH.nil)
              (try simp only [List.getElem_toArray]); (try simp only [List.getElem_cons_succ]); (try simp only [List.getElem_cons_zero])
              go_simp
              obtain ⟨w28x, hw28⟩ : ∃ x, x = w27x.alloc (.cells #[] 9) := ⟨_, rfl⟩
              obtain ⟨z28, hz28⟩ : ∃ x, x = w27x.heap.size := ⟨_, rfl⟩
              have hn28 : Below w27x.heap.size w27x w28x := by rw [hw28]; exact below_alloc _ _
              have hb28 : Below w9.heap.size w9 w28x := below_and HB27.out hn28
              have HB28 := Lib.hid hb28
              have HO28 : Hid (w28x.ownsRow w9.heap.size 9 1 (.slice (some ⟨z28, 0, none⟩) 0 0) 0 []) := Lib.hid (by rw [hw28, hz28]; exact World.ownsRow_made w27x #[] 0 HB27.out.size (by decide) rfl)
              have HY28 := Lib.hid (HY27.out.kept hn28)
              have HNE28 : Hid (∀ q, (Value.slice (some ⟨z28, 0, none⟩) 0 0).ownBlock = some q → q ≠ z27) := Lib.hid (fun q hq => by simp [Value.ownBlock] at hq; have := HY27.out.lt; omega)
              rw [← hw28, ← hz28]
              refine hK.out _ _ ⟨cell_kept f1 hb28, cell_kept f2 hb28, hb28⟩ (fun hS28 => ?_)
              clear hK K hb28 hw28 hz28 hn28 hS27
              (try simp only [Act.put]); (try simp only [List.setIfInBounds_toArray]); (try simp only [List.set_cons_succ]); (try simp only [List.set_cons_zero])
              refine wpAnyH_ready (rs := [4]) (by kernel_rfl) (by simp) ?_
              refine (AllReadyH.cons rfl (fun K hK => ?_) AllReadyH.nil)
              refine step_app rfl (.tmp 36) (.tmp 39) 44 44 rfl w9.heap.size 9 i0 (.string ⟨#[]⟩) 1 16 Try.underlying44 hi0 hz0 hz1 hz2 rfl (.slice (some ⟨z28, 0, none⟩) 0 0) 0 [] (by rfl) HO28.out (.slice none 0 0) 0 ((([] : List ByteArray).take 0).map Value.string) (by rfl) (Row.src Try.underlying44 (row_nil _ 1)) (by have := HNL.out; have := HJ.out; unfold maxLen; omega) (by have := HNL.out; have := HJ.out; omega) HB28.out.size ?_
              intro v29 w29x ho29 hg29 hn29 hk29
              have HO29 : Hid (w29x.ownsRow w9.heap.size 9 1 v29 0 ((([] : List ByteArray).take 0).map Value.string)) := Lib.hid (by simpa using ho29)
              have hb29 : Below w9.heap.size w9 w29x := HB28.out.trans ((Fr.of_grown hg29).below (by intro y hy; exact own_base HO28.out (Option.mem_toList.1 hy)) HB28.out.size)
              have HB29 := Lib.hid hb29
              have HY29 := Lib.hid (HY28.out.fr (Fr.of_grown hg29) (fun hm => HNE28.out _ (Option.mem_toList.1 hm) rfl))
              have HNE29 : Hid (∀ q, v29.ownBlock = some q → q ≠ z27) := Lib.hid (fun q hq => by rcases hk29 q hq with h1 | h1; exact HNE28.out q h1; have := HY28.out.lt; omega)
              refine hK.out _ _ ⟨cell_kept f1 hb29, cell_kept f2 hb29, hb29⟩ (fun hS29 => ?_)
              clear hK K hb29 ho29 hg29 hn29 hk29 hS28
              (try simp only [Act.put]); (try simp only [List.setIfInBounds_toArray]); (try simp only [List.set_cons_succ]); (try simp only [List.set_cons_zero])
              refine wpAnyH_ready (rs := [14]) (by kernel_rfl) (by simp) ?_
              refine (AllReadyH.cons rfl (fun K hK => ?_) AllReadyH.nil)
              refine step_app rfl (.tmp 40) (.tmp 49) 44 44 rfl w9.heap.size 9 i0 (.string ⟨#[]⟩) 1 16 Try.underlying44 hi0 hz0 hz1 hz2 rfl v29 0 ((([] : List ByteArray).take 0).map Value.string) (by rfl) HO29.out (.slice (some ⟨z27, 0, none⟩) 1 1) 1 [.string nm] (by rfl) (src_block Try.underlying44 _ z27 #[.string nm] HY29.out rfl (by simp [Value.oneCell'])) (by have := HNL.out; have := HJ.out; unfold maxLen; omega) (by have := HNL.out; have := HJ.out; omega) HB29.out.size ?_
              intro v30 w30x ho30 hg30 hn30 hk30
              have HO30 : Hid (w30x.ownsRow w9.heap.size 9 1 v30 (0 + 1) (((([] : List ByteArray).take 0).map Value.string) ++ [.string nm])) := Lib.hid (ho30)
              have hb30 : Below w9.heap.size w9 w30x := HB29.out.trans ((Fr.of_grown hg30).below (by intro y hy; exact own_base HO29.out (Option.mem_toList.1 hy)) HB29.out.size)
              have HB30 := Lib.hid hb30
              refine hK.out _ _ ⟨cell_kept f1 hb30, cell_kept f2 hb30, hb30⟩ (fun hS30 => ?_)
              clear hK K hb30 ho30 hg30 hn30 hk30 hS29
              (try simp only [Act.put]); (try simp only [List.setIfInBounds_toArray]); (try simp only [List.set_cons_succ]); (try simp only [List.set_cons_zero])
              refine wpAnyH_ready (rs := [18]) (by kernel_rfl) (by simp) ?_
              refine (AllReadyH.cons rfl (fun K hK => ?_) AllReadyH.nil)
              refine step_app rfl (.tmp 50) (.tmp 53) 44 44 rfl w9.heap.size 9 i0 (.string ⟨#[]⟩) 1 16 Try.underlying44 hi0 hz0 hz1 hz2 rfl v30 (0 + 1) (((([] : List ByteArray).take 0).map Value.string) ++ [.string nm]) (by rfl) HO30.out (.slice none 0 0) (([] : List ByteArray).length - 0) ((([] : List ByteArray).drop 0).map Value.string) (by rfl) (Row.src Try.underlying44 (row_nil _ 1)) (by have := HNL.out; have := HJ.out; unfold maxLen; omega) (by have := HNL.out; have := HJ.out; omega) HB30.out.size ?_
              intro v31 w31x ho31 hg31 hn31 hk31
              have HO31 : Hid (w31x.ownsRow w9.heap.size 9 1 v31 (0 + 1 + (([] : List ByteArray).length - 0)) (((([] : List ByteArray).take 0).map Value.string) ++ [.string nm] ++ ((([] : List ByteArray).drop 0).map Value.string))) := Lib.hid (ho31)
              have hb31 : Below w9.heap.size w9 w31x := HB30.out.trans ((Fr.of_grown hg31).below (by intro y hy; exact own_base HO30.out (Option.mem_toList.1 hy)) HB30.out.size)
              have HB31 := Lib.hid hb31
              refine hK.out _ _ ⟨cell_kept f1 hb31, cell_kept f2 hb31, hb31⟩ (fun hS31 => ?_)
              clear hK K hb31 ho31 hg31 hn31 hk31 hS30
              (try simp only [Act.put]); (try simp only [List.setIfInBounds_toArray]); (try simp only [List.set_cons_succ]); (try simp only [List.set_cons_zero])
              refine wpAnyH_take (i := 19) (v := ?v32) rfl (by kernel_rfl) (by kernel_rfl) (by kernel_rfl) (fun _ _ _ h => h) (Or.inl ⟨by rfl, ?hy32⟩) (by assumption) ?rest32
              case hy32 => (intro _ hSw; (try dsimp only at hSw); go_simp; (try with_reducible rfl))
              (try simp only [Act.put]); (try simp only [List.setIfInBounds_toArray]); (try simp only [List.set_cons_succ]); (try simp only [List.set_cons_zero])
              refine wpAnyH_done (by kernel_rfl) ?_ _
              refine NoPanic.normal ?_
              clear hS31 hHeld
              have HW31 : Hid (Below w.heap.size w w31x) := Lib.hid (below_and HBW.out HB31.out)
              have HE31 : Hid (w31x.ownsRow w.heap.size 9 1 v31 (nmS (S.take (i + 1))).length ((nmS (S.take (i + 1))).map Value.string)) := Lib.hid (by
                have ho := own_mono HO31.out HBW.out.size
                rw [HNX.out]
                have e1 : ((([] : List ByteArray).take 0).map Value.string) ++ [Value.string nm] ++ ((([] : List ByteArray).drop 0).map Value.string) = ((([] : List ByteArray).take 0 ++ nm :: ([] : List ByteArray).drop 0).map Value.string) := by simp
                have e2 : 0 + 1 + (([] : List ByteArray).length - 0) = (([] : List ByteArray).take 0 ++ nm :: ([] : List ByteArray).drop 0).length := by have := HJ.out; rw [List.length_append, List.length_cons, List.length_take, List.length_drop]; omega
                rw [e1, e2] at ho
                exact ho)
              go_wp2
              go_roundw
              case rel => exact ⟨i + 1, hlt, by go_num, HE31, HW31⟩
              case measure => simp [intOf]; omega
          · simp only [Value.slice.injEq] at hv
            obtain ⟨rfl, -, rfl⟩ := hv
            have b1 : (0 : Int) ≤ (j : Int) := by omega
            have b2 : (j : Int) ≤ (ns.length : Int) := by have := HJ.out; omega
            have b6 : (ns.length : Int) ≤ (c3 : Int) := by omega
            have b3 : (j : Int) ≤ (c3 : Int) := by omega
            by_cases hin : j < ns.length
            · obtain ⟨yj, hyj⟩ : ∃ yj, yj = ns[j] := ⟨_, rfl⟩
              have t1 : Op.bytesLess yj.toList nm.toList = false := by rw [hyj]; exact HEN.out hin
              have y0 : ∀ y : Past wr, y.val.cell? ⟨q0, j, none⟩ = some (.string yj) := Past.cell (own_cell HNm.out (by rw [hyj]; simp [hin]))
              have i2 : (j : Int) < (ns.length : Int) := by omega
              clear hyj
              go_wp2
              refine wp_region_past (by kernel_rfl) (by kernel_rfl) ?_
              repeat (go_big_quiet_step (fail))
              refine wpQuiet_nil ?_
              intro _ hw'
              obtain ⟨s9, hw''⟩ := hw'
              subst hw''
              obtain ⟨w9, h9, e9⟩ : ∃ w9, Below wr.heap.size wr w9 ∧ w9 = s9.val := ⟨_, s9.h, rfl⟩
              rw [← e9]
              have f1 : w9.cell? ⟨b, 1, none⟩ = some (.slice (some ⟨g, o, none⟩) S.length c) := (HRm.out.kept h9).blk.cell (j := 1) rfl
              have f2 : w9.cell? ⟨g, o + i * 2, none⟩ = some (.string nm) := cell_kept (cell_kept HEX.out HBm.out) h9
              have HN9 := Lib.hid (own_fr HNm.out (Fr.of_below h9 []) (fun _ _ => by simp))
              have HBW : Hid (Below w.heap.size w w9) := Lib.hid (below_and HB.out (below_and HBm.out h9))
              clear h9 e9 x0 x4 y0
              go_upto_region 8 with fail
              refine wp_region_noPanic ?_
              refine wp_region_held_drew (S := fun w' => w'.cell? ⟨b, 1, none⟩ = some (.slice (some ⟨g, o, none⟩) S.length c) ∧ w'.cell? ⟨g, o + i * 2, none⟩ = some (.string nm) ∧ Below w9.heap.size w9 w') (by kernel_rfl) ⟨f1, f2, below_drewN 1⟩ (fun hHeld => ?_)
              have HB33 : Hid (Below w9.heap.size w9 w9.drew) := Lib.hid (below_drewN 1)
              have hS33 : True := trivial
              obtain ⟨wd33, hwd⟩ : ∃ x, x = w9.drew := ⟨_, rfl⟩
              rw [← hwd] at hHeld HB33 ⊢
              clear hwd
              refine wpAnyH_take (i := 1) (v := ?v34) rfl (by kernel_rfl) (by kernel_rfl) (by kernel_rfl) (fun _ _ _ h => h) (Or.inl ⟨by rfl, ?hy34⟩) (by assumption) ?rest34
              case hy34 => (intro _ hSw; (try dsimp only at hSw); go_simp; (try with_reducible rfl))
              (try simp only [Act.put]); (try simp only [List.setIfInBounds_toArray]); (try simp only [List.set_cons_succ]); (try simp only [List.set_cons_zero])
              refine wpAnyH_take (i := 2) (v := ?v35) rfl (by kernel_rfl) (by kernel_rfl) (by kernel_rfl) (fun _ _ _ h => h) (Or.inl ⟨by rfl, ?hy35⟩) (by assumption) ?rest35
              case hy35 => (intro _ hSw; (try dsimp only at hSw); go_simp; (try with_reducible rfl))
              (try simp only [Act.put]); (try simp only [List.setIfInBounds_toArray]); (try simp only [List.set_cons_succ]); (try simp only [List.set_cons_zero])
              refine wpAnyH_take (i := 3) (v := ?v36) rfl (by kernel_rfl) (by kernel_rfl) (by kernel_rfl) (fun _ _ _ h => h) (Or.inl ⟨by rfl, ?hy36⟩) (by assumption) ?rest36
              case hy36 => (intro _ hSw; (try dsimp only at hSw); go_simp; (try with_reducible rfl))
              (try simp only [Act.put]); (try simp only [List.setIfInBounds_toArray]); (try simp only [List.set_cons_succ]); (try simp only [List.set_cons_zero])
              refine wpAnyH_take (i := 5) (v := ?v37) rfl (by kernel_rfl) (by kernel_rfl) (by kernel_rfl) (fun _ _ _ h => h) (Or.inl ⟨by rfl, ?hy37⟩) (by assumption) ?rest37
              case hy37 => (intro _ hSw; (try dsimp only at hSw); go_simp; (try with_reducible rfl))
              (try simp only [Act.put]); (try simp only [List.setIfInBounds_toArray]); (try simp only [List.set_cons_succ]); (try simp only [List.set_cons_zero])
              refine wpAnyH_take (i := 6) (v := ?v38) rfl (by kernel_rfl) (by kernel_rfl) (by kernel_rfl) (fun _ _ _ h => h) (Or.inl ⟨by rfl, ?hy38⟩) (by assumption) ?rest38
              case hy38 => (intro _ hSw; (try dsimp only at hSw); go_simp; (try with_reducible rfl))
              (try simp only [Act.put]); (try simp only [List.setIfInBounds_toArray]); (try simp only [List.set_cons_succ]); (try simp only [List.set_cons_zero])
              refine wpAnyH_take (i := 7) (v := ?v39) rfl (by kernel_rfl) (by kernel_rfl) (by kernel_rfl) (fun _ _ _ h => h) (Or.inl ⟨by rfl, ?hy39⟩) (by assumption) ?rest39
              case hy39 => (intro _ hSw; (try dsimp only at hSw); go_simp; (try with_reducible rfl))
              (try simp only [Act.put]); (try simp only [List.setIfInBounds_toArray]); (try simp only [List.set_cons_succ]); (try simp only [List.set_cons_zero])
              refine wpAnyH_take (i := 8) (v := ?v40) rfl (by kernel_rfl) (by kernel_rfl) (by kernel_rfl) (fun _ _ _ h => h) (Or.inl ⟨by rfl, ?hy40⟩) (by assumption) ?rest40
              case hy40 => (intro _ hSw; (try dsimp only at hSw); go_simp; (try with_reducible rfl))
              (try simp only [Act.put]); (try simp only [List.setIfInBounds_toArray]); (try simp only [List.set_cons_succ]); (try simp only [List.set_cons_zero])
              refine wpAnyH_take (i := 9) (v := ?v41) rfl (by kernel_rfl) (by kernel_rfl) (by kernel_rfl) (fun _ _ _ h => h) (Or.inl ⟨by rfl, ?hy41⟩) (by assumption) ?rest41
              case hy41 => (intro _ hSw; (try dsimp only at hSw); go_simp; (try with_reducible rfl))
              (try simp only [Act.put]); (try simp only [List.setIfInBounds_toArray]); (try simp only [List.set_cons_succ]); (try simp only [List.set_cons_zero])
              refine wpAnyH_take (i := 10) (v := ?v42) rfl (by kernel_rfl) (by kernel_rfl) (by kernel_rfl) (fun _ _ _ h => h) (Or.inl ⟨by rfl, ?hy42⟩) (by assumption) ?rest42
              case hy42 => (intro _ hSw; (try dsimp only at hSw); go_simp; (try with_reducible rfl))
              (try simp only [Act.put]); (try simp only [List.setIfInBounds_toArray]); (try simp only [List.set_cons_succ]); (try simp only [List.set_cons_zero])
              refine wpAnyH_take (i := 11) (v := ?v43) rfl (by kernel_rfl) (by kernel_rfl) (by kernel_rfl) (fun _ _ _ h => h) (Or.inl ⟨by rfl, ?hy43⟩) (by assumption) ?rest43
              case hy43 => (intro _ hSw; (try dsimp only at hSw); go_simp; (try with_reducible rfl))
              (try simp only [Act.put]); (try simp only [List.setIfInBounds_toArray]); (try simp only [List.set_cons_succ]); (try simp only [List.set_cons_zero])
              refine wpAnyH_take (i := 12) (v := ?v44) rfl (by kernel_rfl) (by kernel_rfl) (by kernel_rfl) (fun _ _ _ h => h) (Or.inl ⟨by rfl, ?hy44⟩) (by assumption) ?rest44
              case hy44 => (intro _ hSw; (try dsimp only at hSw); go_simp; (try with_reducible rfl))
              (try simp only [Act.put]); (try simp only [List.setIfInBounds_toArray]); (try simp only [List.set_cons_succ]); (try simp only [List.set_cons_zero])
              refine wpAnyH_take (i := 15) (v := ?v45) rfl (by kernel_rfl) (by kernel_rfl) (by kernel_rfl) (fun _ _ _ h => h) (Or.inl ⟨by rfl, ?hy45⟩) (by assumption) ?rest45
              case hy45 => (intro _ hSw; (try dsimp only at hSw); go_simp; (try with_reducible rfl))
              (try simp only [Act.put]); (try simp only [List.setIfInBounds_toArray]); (try simp only [List.set_cons_succ]); (try simp only [List.set_cons_zero])
              refine wpAnyH_take (i := 16) (v := ?v46) rfl (by kernel_rfl) (by kernel_rfl) (by kernel_rfl) (fun _ _ _ h => h) (Or.inl ⟨by rfl, ?hy46⟩) (by assumption) ?rest46
              case hy46 => (intro _ hSw; (try dsimp only at hSw); go_simp; (try with_reducible rfl))
              (try simp only [Act.put]); (try simp only [List.setIfInBounds_toArray]); (try simp only [List.set_cons_succ]); (try simp only [List.set_cons_zero])
              refine wpAnyH_take (i := 17) (v := ?v47) rfl (by kernel_rfl) (by kernel_rfl) (by kernel_rfl) (fun _ _ _ h => h) (Or.inl ⟨by rfl, ?hy47⟩) (by assumption) ?rest47
              case hy47 => (intro _ hSw; (try dsimp only at hSw); go_simp; (try with_reducible rfl))
              (try simp only [Act.put]); (try simp only [List.setIfInBounds_toArray]); (try simp only [List.set_cons_succ]); (try simp only [List.set_cons_zero])
              refine wpAnyH_ready (rs := [0, 13]) (by kernel_rfl) (by simp) ?_
              refine (AllReadyH.cons rfl (fun K hK => ?_) (AllReadyH.cons rfl (fun K hK => ?_) AllReadyH.nil))
              · (try simp only [List.getElem_toArray]); (try simp only [List.getElem_cons_succ]); (try simp only [List.getElem_cons_zero])
                go_simp
                obtain ⟨w48x, hw48⟩ : ∃ x, x = wd33.alloc (.cells #[] 9) := ⟨_, rfl⟩
                obtain ⟨z48, hz48⟩ : ∃ x, x = wd33.heap.size := ⟨_, rfl⟩
                have hn48 : Below wd33.heap.size wd33 w48x := by rw [hw48]; exact below_alloc _ _
                have hb48 : Below w9.heap.size w9 w48x := below_and HB33.out hn48
                have HB48 := Lib.hid hb48
                have HO48 : Hid (w48x.ownsRow w9.heap.size 9 1 (.slice (some ⟨z48, 0, none⟩) 0 0) 0 []) := Lib.hid (by rw [hw48, hz48]; exact World.ownsRow_made wd33 #[] 0 HB33.out.size (by decide) rfl)
                rw [← hw48, ← hz48]
                refine hK.out _ _ ⟨cell_kept f1 hb48, cell_kept f2 hb48, hb48⟩ (fun hS48 => ?_)
                clear hK K hb48 hw48 hz48 hn48 hS33
                (try simp only [Act.put]); (try simp only [List.setIfInBounds_toArray]); (try simp only [List.set_cons_succ]); (try simp only [List.set_cons_zero])
                refine wpAnyH_ready (rs := [4, 13]) (by kernel_rfl) (by simp) ?_
                refine (AllReadyH.cons rfl (fun K hK => ?_) (AllReadyH.cons rfl (fun K hK => ?_) AllReadyH.nil))
                · refine step_app rfl (.tmp 36) (.tmp 39) 44 44 rfl w9.heap.size 9 i0 (.string ⟨#[]⟩) 1 16 Try.underlying44 hi0 hz0 hz1 hz2 rfl (.slice (some ⟨z48, 0, none⟩) 0 0) 0 [] (by rfl) HO48.out (.slice (some ⟨q0, 0, none⟩) j c3) j ((ns.take j).map Value.string) (by rfl) (Row.src Try.underlying44 (by have := row_partS (own_fr HN9.out (Fr.of_below HB48.out []) (fun _ _ => by simp)) ns_one (o := 0) (m := j) (c' := c3) (by have := HJ.out; omega) (by have := HJ.out; omega) hcm3 (some ⟨q0, 0, none⟩) (by simp) (fun _ => by simp); simpa using this)) (by have := HNL.out; have := HJ.out; unfold maxLen; omega) (by have := HNL.out; have := HJ.out; omega) HB48.out.size ?_
                  intro v49 w49x ho49 hg49 hn49 hk49
                  have HO49 : Hid (w49x.ownsRow w9.heap.size 9 1 v49 j ((ns.take j).map Value.string)) := Lib.hid (by simpa using ho49)
                  have hb49 : Below w9.heap.size w9 w49x := HB48.out.trans ((Fr.of_grown hg49).below (by intro y hy; exact own_base HO48.out (Option.mem_toList.1 hy)) HB48.out.size)
                  have HB49 := Lib.hid hb49
                  refine hK.out _ _ ⟨cell_kept f1 hb49, cell_kept f2 hb49, hb49⟩ (fun hS49 => ?_)
                  clear hK K hb49 ho49 hg49 hn49 hk49 hS48
                  (try simp only [Act.put]); (try simp only [List.setIfInBounds_toArray]); (try simp only [List.set_cons_succ]); (try simp only [List.set_cons_zero])
                  refine wpAnyH_ready (rs := [13]) (by kernel_rfl) (by simp) ?_
                  refine (AllReadyH.cons rfl (fun K hK => ?_) AllReadyH.nil)
                  (try simp only [List.getElem_toArray]); (try simp only [List.getElem_cons_succ]); (try simp only [List.getElem_cons_zero])
                  go_simp
                  obtain ⟨w50x, hw50⟩ : ∃ x, x = w49x.alloc (.cells #[.string nm] 9) := ⟨_, rfl⟩
                  obtain ⟨z50, hz50⟩ : ∃ x, x = w49x.heap.size := ⟨_, rfl⟩
                  have hn50 : Below w49x.heap.size w49x w50x := by rw [hw50]; exact below_alloc _ _
                  have hb50 : Below w9.heap.size w9 w50x := below_and HB49.out hn50
                  have HB50 := Lib.hid hb50
                  have HY50 : Hid (Blk w50x z50 [.string nm] 9) := Lib.hid (by rw [hw50, hz50]; exact Blk.made w49x [.string nm] _)
                  have HO50 := Lib.hid (own_fr HO49.out (Fr.of_below hn50 []) (fun _ _ => by simp))
                  have HNE50 : Hid (∀ q, (v49 : Value).ownBlock = some q → q ≠ z50) := Lib.hid (fun q hq => by have := own_lt HO49.out hq; omega)
                  rw [← hw50, ← hz50]
                  refine hK.out _ _ ⟨cell_kept f1 hb50, cell_kept f2 hb50, hb50⟩ (fun hS50 => ?_)
                  clear hK K hb50 hw50 hz50 hn50 hS49
                  (try simp only [Act.put]); (try simp only [List.setIfInBounds_toArray]); (try simp only [List.set_cons_succ]); (try simp only [List.set_cons_zero])
                  refine wpAnyH_ready (rs := [14]) (by kernel_rfl) (by simp) ?_
                  refine (AllReadyH.cons rfl (fun K hK => ?_) AllReadyH.nil)
                  refine step_app rfl (.tmp 40) (.tmp 49) 44 44 rfl w9.heap.size 9 i0 (.string ⟨#[]⟩) 1 16 Try.underlying44 hi0 hz0 hz1 hz2 rfl v49 j ((ns.take j).map Value.string) (by rfl) HO50.out (.slice (some ⟨z50, 0, none⟩) 1 1) 1 [.string nm] (by rfl) (src_block Try.underlying44 _ z50 #[.string nm] HY50.out rfl (by simp [Value.oneCell'])) (by have := HNL.out; have := HJ.out; unfold maxLen; omega) (by have := HNL.out; have := HJ.out; omega) HB50.out.size ?_
                  intro v51 w51x ho51 hg51 hn51 hk51
                  have HO51 : Hid (w51x.ownsRow w9.heap.size 9 1 v51 (j + 1) (((ns.take j).map Value.string) ++ [.string nm])) := Lib.hid (ho51)
                  have hb51 : Below w9.heap.size w9 w51x := HB50.out.trans ((Fr.of_grown hg51).below (by intro y hy; exact own_base HO50.out (Option.mem_toList.1 hy)) HB50.out.size)
                  have HB51 := Lib.hid hb51
                  refine hK.out _ _ ⟨cell_kept f1 hb51, cell_kept f2 hb51, hb51⟩ (fun hS51 => ?_)
                  clear hK K hb51 ho51 hg51 hn51 hk51 hS50
                  (try simp only [Act.put]); (try simp only [List.setIfInBounds_toArray]); (try simp only [List.set_cons_succ]); (try simp only [List.set_cons_zero])
                  refine wpAnyH_ready (rs := [18]) (by kernel_rfl) (by simp) ?_
                  refine (AllReadyH.cons rfl (fun K hK => ?_) AllReadyH.nil)
                  refine step_app rfl (.tmp 50) (.tmp 53) 44 44 rfl w9.heap.size 9 i0 (.string ⟨#[]⟩) 1 16 Try.underlying44 hi0 hz0 hz1 hz2 rfl v51 (j + 1) (((ns.take j).map Value.string) ++ [.string nm]) (by rfl) HO51.out (.slice (if c3 = j then some ⟨q0, 0, none⟩ else some ⟨q0, j, none⟩) (ns.length - j) (c3 - j)) (ns.length - j) ((ns.drop j).map Value.string) (by rfl) (Row.src Try.underlying44 (by have := row_partS (own_fr HN9.out (Fr.of_below HB51.out []) (fun _ _ => by simp)) ns_one (o := j) (m := ns.length - j) (c' := c3 - j) (by have := HJ.out; omega) (by omega) (by omega) (if c3 = j then some ⟨q0, 0, none⟩ else some ⟨q0, j, none⟩) (by split <;> simp) (fun _ => by rw [if_neg (by have := HJ.out; omega)]; simp); simp only [Nat.mul_one] at this; rw [List.take_of_length_le (by simp)] at this; simpa [List.map_drop] using this)) (by have := HNL.out; have := HJ.out; unfold maxLen; omega) (by have := HNL.out; have := HJ.out; omega) HB51.out.size ?_
                  intro v52 w52x ho52 hg52 hn52 hk52
                  have HO52 : Hid (w52x.ownsRow w9.heap.size 9 1 v52 (j + 1 + (ns.length - j)) (((ns.take j).map Value.string) ++ [.string nm] ++ ((ns.drop j).map Value.string))) := Lib.hid (ho52)
                  have hb52 : Below w9.heap.size w9 w52x := HB51.out.trans ((Fr.of_grown hg52).below (by intro y hy; exact own_base HO51.out (Option.mem_toList.1 hy)) HB51.out.size)
                  have HB52 := Lib.hid hb52
                  refine hK.out _ _ ⟨cell_kept f1 hb52, cell_kept f2 hb52, hb52⟩ (fun hS52 => ?_)
                  clear hK K hb52 ho52 hg52 hn52 hk52 hS51
                  (try simp only [Act.put]); (try simp only [List.setIfInBounds_toArray]); (try simp only [List.set_cons_succ]); (try simp only [List.set_cons_zero])
                  refine wpAnyH_take (i := 19) (v := ?v53) rfl (by kernel_rfl) (by kernel_rfl) (by kernel_rfl) (fun _ _ _ h => h) (Or.inl ⟨by rfl, ?hy53⟩) (by assumption) ?rest53
                  case hy53 => (intro _ hSw; (try dsimp only at hSw); go_simp; (try with_reducible rfl))
                  (try simp only [Act.put]); (try simp only [List.setIfInBounds_toArray]); (try simp only [List.set_cons_succ]); (try simp only [List.set_cons_zero])
                  refine wpAnyH_done (by kernel_rfl) ?_ _
                  refine NoPanic.normal ?_
                  clear hS52 hHeld
                  generalize (if c3 = j then some (⟨q0, 0, none⟩ : Addr) else some ⟨q0, j, none⟩) = pp
                  have HW52 : Hid (Below w.heap.size w w52x) := Lib.hid (below_and HBW.out HB52.out)
                  have HE52 : Hid (w52x.ownsRow w.heap.size 9 1 v52 (nmS (S.take (i + 1))).length ((nmS (S.take (i + 1))).map Value.string)) := Lib.hid (by
                    have ho := own_mono HO52.out HBW.out.size
                    rw [HNX.out]
                    have e1 : ((ns.take j).map Value.string) ++ [Value.string nm] ++ ((ns.drop j).map Value.string) = ((ns.take j ++ nm :: ns.drop j).map Value.string) := by simp
                    have e2 : j + 1 + (ns.length - j) = (ns.take j ++ nm :: ns.drop j).length := by have := HJ.out; rw [List.length_append, List.length_cons, List.length_take, List.length_drop]; omega
                    rw [e1, e2] at ho
                    exact ho)
                  go_wp2
                  go_roundw
                  case rel => exact ⟨i + 1, hlt, by go_num, HE52, HW52⟩
                  case measure => simp [intOf]; omega
                · (try simp only [List.getElem_toArray]); (try simp only [List.getElem_cons_succ]); (try simp only [List.getElem_cons_zero])
                  go_simp
                  obtain ⟨w54x, hw54⟩ : ∃ x, x = w48x.alloc (.cells #[.string nm] 9) := ⟨_, rfl⟩
                  obtain ⟨z54, hz54⟩ : ∃ x, x = w48x.heap.size := ⟨_, rfl⟩
                  have hn54 : Below w48x.heap.size w48x w54x := by rw [hw54]; exact below_alloc _ _
                  have hb54 : Below w9.heap.size w9 w54x := below_and HB48.out hn54
                  have HB54 := Lib.hid hb54
                  have HY54 : Hid (Blk w54x z54 [.string nm] 9) := Lib.hid (by rw [hw54, hz54]; exact Blk.made w48x [.string nm] _)
                  have HO54 := Lib.hid (own_fr HO48.out (Fr.of_below hn54 []) (fun _ _ => by simp))
                  have HNE54 : Hid (∀ q, ((.slice (some ⟨z48, 0, none⟩) 0 0) : Value).ownBlock = some q → q ≠ z54) := Lib.hid (fun q hq => by have := own_lt HO48.out hq; omega)
                  rw [← hw54, ← hz54]
                  refine hK.out _ _ ⟨cell_kept f1 hb54, cell_kept f2 hb54, hb54⟩ (fun hS54 => ?_)
                  clear hK K hb54 hw54 hz54 hn54 hS48
                  (try simp only [Act.put]); (try simp only [List.setIfInBounds_toArray]); (try simp only [List.set_cons_succ]); (try simp only [List.set_cons_zero])
                  refine wpAnyH_ready (rs := [4]) (by kernel_rfl) (by simp) ?_
                  refine (AllReadyH.cons rfl (fun K hK => ?_) AllReadyH.nil)
                  refine step_app rfl (.tmp 36) (.tmp 39) 44 44 rfl w9.heap.size 9 i0 (.string ⟨#[]⟩) 1 16 Try.underlying44 hi0 hz0 hz1 hz2 rfl (.slice (some ⟨z48, 0, none⟩) 0 0) 0 [] (by rfl) HO54.out (.slice (some ⟨q0, 0, none⟩) j c3) j ((ns.take j).map Value.string) (by rfl) (Row.src Try.underlying44 (by have := row_partS (own_fr HN9.out (Fr.of_below HB54.out []) (fun _ _ => by simp)) ns_one (o := 0) (m := j) (c' := c3) (by have := HJ.out; omega) (by have := HJ.out; omega) hcm3 (some ⟨q0, 0, none⟩) (by simp) (fun _ => by simp); simpa using this)) (by have := HNL.out; have := HJ.out; unfold maxLen; omega) (by have := HNL.out; have := HJ.out; omega) HB54.out.size ?_
                  intro v55 w55x ho55 hg55 hn55 hk55
                  have HO55 : Hid (w55x.ownsRow w9.heap.size 9 1 v55 j ((ns.take j).map Value.string)) := Lib.hid (by simpa using ho55)
                  have hb55 : Below w9.heap.size w9 w55x := HB54.out.trans ((Fr.of_grown hg55).below (by intro y hy; exact own_base HO54.out (Option.mem_toList.1 hy)) HB54.out.size)
                  have HB55 := Lib.hid hb55
                  have HY55 := Lib.hid (HY54.out.fr (Fr.of_grown hg55) (fun hm => HNE54.out _ (Option.mem_toList.1 hm) rfl))
                  have HNE55 : Hid (∀ q, v55.ownBlock = some q → q ≠ z54) := Lib.hid (fun q hq => by rcases hk55 q hq with h1 | h1; exact HNE54.out q h1; have := HY54.out.lt; omega)
                  refine hK.out _ _ ⟨cell_kept f1 hb55, cell_kept f2 hb55, hb55⟩ (fun hS55 => ?_)
                  clear hK K hb55 ho55 hg55 hn55 hk55 hS54
                  (try simp only [Act.put]); (try simp only [List.setIfInBounds_toArray]); (try simp only [List.set_cons_succ]); (try simp only [List.set_cons_zero])
                  refine wpAnyH_ready (rs := [14]) (by kernel_rfl) (by simp) ?_
                  refine (AllReadyH.cons rfl (fun K hK => ?_) AllReadyH.nil)
                  refine step_app rfl (.tmp 40) (.tmp 49) 44 44 rfl w9.heap.size 9 i0 (.string ⟨#[]⟩) 1 16 Try.underlying44 hi0 hz0 hz1 hz2 rfl v55 j ((ns.take j).map Value.string) (by rfl) HO55.out (.slice (some ⟨z54, 0, none⟩) 1 1) 1 [.string nm] (by rfl) (src_block Try.underlying44 _ z54 #[.string nm] HY55.out rfl (by simp [Value.oneCell'])) (by have := HNL.out; have := HJ.out; unfold maxLen; omega) (by have := HNL.out; have := HJ.out; omega) HB55.out.size ?_
                  intro v56 w56x ho56 hg56 hn56 hk56
                  have HO56 : Hid (w56x.ownsRow w9.heap.size 9 1 v56 (j + 1) (((ns.take j).map Value.string) ++ [.string nm])) := Lib.hid (ho56)
                  have hb56 : Below w9.heap.size w9 w56x := HB55.out.trans ((Fr.of_grown hg56).below (by intro y hy; exact own_base HO55.out (Option.mem_toList.1 hy)) HB55.out.size)
                  have HB56 := Lib.hid hb56
                  refine hK.out _ _ ⟨cell_kept f1 hb56, cell_kept f2 hb56, hb56⟩ (fun hS56 => ?_)
                  clear hK K hb56 ho56 hg56 hn56 hk56 hS55
                  (try simp only [Act.put]); (try simp only [List.setIfInBounds_toArray]); (try simp only [List.set_cons_succ]); (try simp only [List.set_cons_zero])
                  refine wpAnyH_ready (rs := [18]) (by kernel_rfl) (by simp) ?_
                  refine (AllReadyH.cons rfl (fun K hK => ?_) AllReadyH.nil)
                  refine step_app rfl (.tmp 50) (.tmp 53) 44 44 rfl w9.heap.size 9 i0 (.string ⟨#[]⟩) 1 16 Try.underlying44 hi0 hz0 hz1 hz2 rfl v56 (j + 1) (((ns.take j).map Value.string) ++ [.string nm]) (by rfl) HO56.out (.slice (if c3 = j then some ⟨q0, 0, none⟩ else some ⟨q0, j, none⟩) (ns.length - j) (c3 - j)) (ns.length - j) ((ns.drop j).map Value.string) (by rfl) (Row.src Try.underlying44 (by have := row_partS (own_fr HN9.out (Fr.of_below HB56.out []) (fun _ _ => by simp)) ns_one (o := j) (m := ns.length - j) (c' := c3 - j) (by have := HJ.out; omega) (by omega) (by omega) (if c3 = j then some ⟨q0, 0, none⟩ else some ⟨q0, j, none⟩) (by split <;> simp) (fun _ => by rw [if_neg (by have := HJ.out; omega)]; simp); simp only [Nat.mul_one] at this; rw [List.take_of_length_le (by simp)] at this; simpa [List.map_drop] using this)) (by have := HNL.out; have := HJ.out; unfold maxLen; omega) (by have := HNL.out; have := HJ.out; omega) HB56.out.size ?_
                  intro v57 w57x ho57 hg57 hn57 hk57
                  have HO57 : Hid (w57x.ownsRow w9.heap.size 9 1 v57 (j + 1 + (ns.length - j)) (((ns.take j).map Value.string) ++ [.string nm] ++ ((ns.drop j).map Value.string))) := Lib.hid (ho57)
                  have hb57 : Below w9.heap.size w9 w57x := HB56.out.trans ((Fr.of_grown hg57).below (by intro y hy; exact own_base HO56.out (Option.mem_toList.1 hy)) HB56.out.size)
                  have HB57 := Lib.hid hb57
                  refine hK.out _ _ ⟨cell_kept f1 hb57, cell_kept f2 hb57, hb57⟩ (fun hS57 => ?_)
                  clear hK K hb57 ho57 hg57 hn57 hk57 hS56
                  (try simp only [Act.put]); (try simp only [List.setIfInBounds_toArray]); (try simp only [List.set_cons_succ]); (try simp only [List.set_cons_zero])
                  refine wpAnyH_take (i := 19) (v := ?v58) rfl (by kernel_rfl) (by kernel_rfl) (by kernel_rfl) (fun _ _ _ h => h) (Or.inl ⟨by rfl, ?hy58⟩) (by assumption) ?rest58
                  case hy58 => (intro _ hSw; (try dsimp only at hSw); go_simp; (try with_reducible rfl))
                  (try simp only [Act.put]); (try simp only [List.setIfInBounds_toArray]); (try simp only [List.set_cons_succ]); (try simp only [List.set_cons_zero])
                  refine wpAnyH_done (by kernel_rfl) ?_ _
                  refine NoPanic.normal ?_
                  clear hS57 hHeld
                  generalize (if c3 = j then some (⟨q0, 0, none⟩ : Addr) else some ⟨q0, j, none⟩) = pp
                  have HW57 : Hid (Below w.heap.size w w57x) := Lib.hid (below_and HBW.out HB57.out)
                  have HE57 : Hid (w57x.ownsRow w.heap.size 9 1 v57 (nmS (S.take (i + 1))).length ((nmS (S.take (i + 1))).map Value.string)) := Lib.hid (by
                    have ho := own_mono HO57.out HBW.out.size
                    rw [HNX.out]
                    have e1 : ((ns.take j).map Value.string) ++ [Value.string nm] ++ ((ns.drop j).map Value.string) = ((ns.take j ++ nm :: ns.drop j).map Value.string) := by simp
                    have e2 : j + 1 + (ns.length - j) = (ns.take j ++ nm :: ns.drop j).length := by have := HJ.out; rw [List.length_append, List.length_cons, List.length_take, List.length_drop]; omega
                    rw [e1, e2] at ho
                    exact ho)
                  go_wp2
                  go_roundw
                  case rel => exact ⟨i + 1, hlt, by go_num, HE57, HW57⟩
                  case measure => simp [intOf]; omega
              · (try simp only [List.getElem_toArray]); (try simp only [List.getElem_cons_succ]); (try simp only [List.getElem_cons_zero])
                go_simp
                obtain ⟨w59x, hw59⟩ : ∃ x, x = wd33.alloc (.cells #[.string nm] 9) := ⟨_, rfl⟩
                obtain ⟨z59, hz59⟩ : ∃ x, x = wd33.heap.size := ⟨_, rfl⟩
                have hn59 : Below wd33.heap.size wd33 w59x := by rw [hw59]; exact below_alloc _ _
                have hb59 : Below w9.heap.size w9 w59x := below_and HB33.out hn59
                have HB59 := Lib.hid hb59
                have HY59 : Hid (Blk w59x z59 [.string nm] 9) := Lib.hid (by rw [hw59, hz59]; exact Blk.made wd33 [.string nm] _)
                rw [← hw59, ← hz59]
                refine hK.out _ _ ⟨cell_kept f1 hb59, cell_kept f2 hb59, hb59⟩ (fun hS59 => ?_)
                clear hK K hb59 hw59 hz59 hn59 hS33
                (try simp only [Act.put]); (try simp only [List.setIfInBounds_toArray]); (try simp only [List.set_cons_succ]); (try simp only [List.set_cons_zero])
                refine wpAnyH_ready (rs := [0]) (by kernel_rfl) (by simp) ?_
                refine (AllReadyH.cons rfl (fun K hK => ?_) AllReadyH.nil)
                (try simp only [List.getElem_toArray]); (try simp only [List.getElem_cons_succ]); (try simp only [List.getElem_cons_zero])
                go_simp
                obtain ⟨w60x, hw60⟩ : ∃ x, x = w59x.alloc (.cells #[] 9) := ⟨_, rfl⟩
                obtain ⟨z60, hz60⟩ : ∃ x, x = w59x.heap.size := ⟨_, rfl⟩
                have hn60 : Below w59x.heap.size w59x w60x := by rw [hw60]; exact below_alloc _ _
                have hb60 : Below w9.heap.size w9 w60x := below_and HB59.out hn60
                have HB60 := Lib.hid hb60
                have HO60 : Hid (w60x.ownsRow w9.heap.size 9 1 (.slice (some ⟨z60, 0, none⟩) 0 0) 0 []) := Lib.hid (by rw [hw60, hz60]; exact World.ownsRow_made w59x #[] 0 HB59.out.size (by decide) rfl)
                have HY60 := Lib.hid (HY59.out.kept hn60)
                have HNE60 : Hid (∀ q, (Value.slice (some ⟨z60, 0, none⟩) 0 0).ownBlock = some q → q ≠ z59) := Lib.hid (fun q hq => by simp [Value.ownBlock] at hq; have := HY59.out.lt; omega)
                rw [← hw60, ← hz60]
                refine hK.out _ _ ⟨cell_kept f1 hb60, cell_kept f2 hb60, hb60⟩ (fun hS60 => ?_)
                clear hK K hb60 hw60 hz60 hn60 hS59
                (try simp only [Act.put]); (try simp only [List.setIfInBounds_toArray]); (try simp only [List.set_cons_succ]); (try simp only [List.set_cons_zero])
                refine wpAnyH_ready (rs := [4]) (by kernel_rfl) (by simp) ?_
                refine (AllReadyH.cons rfl (fun K hK => ?_) AllReadyH.nil)
                refine step_app rfl (.tmp 36) (.tmp 39) 44 44 rfl w9.heap.size 9 i0 (.string ⟨#[]⟩) 1 16 Try.underlying44 hi0 hz0 hz1 hz2 rfl (.slice (some ⟨z60, 0, none⟩) 0 0) 0 [] (by rfl) HO60.out (.slice (some ⟨q0, 0, none⟩) j c3) j ((ns.take j).map Value.string) (by rfl) (Row.src Try.underlying44 (by have := row_partS (own_fr HN9.out (Fr.of_below HB60.out []) (fun _ _ => by simp)) ns_one (o := 0) (m := j) (c' := c3) (by have := HJ.out; omega) (by have := HJ.out; omega) hcm3 (some ⟨q0, 0, none⟩) (by simp) (fun _ => by simp); simpa using this)) (by have := HNL.out; have := HJ.out; unfold maxLen; omega) (by have := HNL.out; have := HJ.out; omega) HB60.out.size ?_
                intro v61 w61x ho61 hg61 hn61 hk61
                have HO61 : Hid (w61x.ownsRow w9.heap.size 9 1 v61 j ((ns.take j).map Value.string)) := Lib.hid (by simpa using ho61)
                have hb61 : Below w9.heap.size w9 w61x := HB60.out.trans ((Fr.of_grown hg61).below (by intro y hy; exact own_base HO60.out (Option.mem_toList.1 hy)) HB60.out.size)
                have HB61 := Lib.hid hb61
                have HY61 := Lib.hid (HY60.out.fr (Fr.of_grown hg61) (fun hm => HNE60.out _ (Option.mem_toList.1 hm) rfl))
                have HNE61 : Hid (∀ q, v61.ownBlock = some q → q ≠ z59) := Lib.hid (fun q hq => by rcases hk61 q hq with h1 | h1; exact HNE60.out q h1; have := HY60.out.lt; omega)
                refine hK.out _ _ ⟨cell_kept f1 hb61, cell_kept f2 hb61, hb61⟩ (fun hS61 => ?_)
                clear hK K hb61 ho61 hg61 hn61 hk61 hS60
                (try simp only [Act.put]); (try simp only [List.setIfInBounds_toArray]); (try simp only [List.set_cons_succ]); (try simp only [List.set_cons_zero])
                refine wpAnyH_ready (rs := [14]) (by kernel_rfl) (by simp) ?_
                refine (AllReadyH.cons rfl (fun K hK => ?_) AllReadyH.nil)
                refine step_app rfl (.tmp 40) (.tmp 49) 44 44 rfl w9.heap.size 9 i0 (.string ⟨#[]⟩) 1 16 Try.underlying44 hi0 hz0 hz1 hz2 rfl v61 j ((ns.take j).map Value.string) (by rfl) HO61.out (.slice (some ⟨z59, 0, none⟩) 1 1) 1 [.string nm] (by rfl) (src_block Try.underlying44 _ z59 #[.string nm] HY61.out rfl (by simp [Value.oneCell'])) (by have := HNL.out; have := HJ.out; unfold maxLen; omega) (by have := HNL.out; have := HJ.out; omega) HB61.out.size ?_
                intro v62 w62x ho62 hg62 hn62 hk62
                have HO62 : Hid (w62x.ownsRow w9.heap.size 9 1 v62 (j + 1) (((ns.take j).map Value.string) ++ [.string nm])) := Lib.hid (ho62)
                have hb62 : Below w9.heap.size w9 w62x := HB61.out.trans ((Fr.of_grown hg62).below (by intro y hy; exact own_base HO61.out (Option.mem_toList.1 hy)) HB61.out.size)
                have HB62 := Lib.hid hb62
                refine hK.out _ _ ⟨cell_kept f1 hb62, cell_kept f2 hb62, hb62⟩ (fun hS62 => ?_)
                clear hK K hb62 ho62 hg62 hn62 hk62 hS61
                (try simp only [Act.put]); (try simp only [List.setIfInBounds_toArray]); (try simp only [List.set_cons_succ]); (try simp only [List.set_cons_zero])
                refine wpAnyH_ready (rs := [18]) (by kernel_rfl) (by simp) ?_
                refine (AllReadyH.cons rfl (fun K hK => ?_) AllReadyH.nil)
                refine step_app rfl (.tmp 50) (.tmp 53) 44 44 rfl w9.heap.size 9 i0 (.string ⟨#[]⟩) 1 16 Try.underlying44 hi0 hz0 hz1 hz2 rfl v62 (j + 1) (((ns.take j).map Value.string) ++ [.string nm]) (by rfl) HO62.out (.slice (if c3 = j then some ⟨q0, 0, none⟩ else some ⟨q0, j, none⟩) (ns.length - j) (c3 - j)) (ns.length - j) ((ns.drop j).map Value.string) (by rfl) (Row.src Try.underlying44 (by have := row_partS (own_fr HN9.out (Fr.of_below HB62.out []) (fun _ _ => by simp)) ns_one (o := j) (m := ns.length - j) (c' := c3 - j) (by have := HJ.out; omega) (by omega) (by omega) (if c3 = j then some ⟨q0, 0, none⟩ else some ⟨q0, j, none⟩) (by split <;> simp) (fun _ => by rw [if_neg (by have := HJ.out; omega)]; simp); simp only [Nat.mul_one] at this; rw [List.take_of_length_le (by simp)] at this; simpa [List.map_drop] using this)) (by have := HNL.out; have := HJ.out; unfold maxLen; omega) (by have := HNL.out; have := HJ.out; omega) HB62.out.size ?_
                intro v63 w63x ho63 hg63 hn63 hk63
                have HO63 : Hid (w63x.ownsRow w9.heap.size 9 1 v63 (j + 1 + (ns.length - j)) (((ns.take j).map Value.string) ++ [.string nm] ++ ((ns.drop j).map Value.string))) := Lib.hid (ho63)
                have hb63 : Below w9.heap.size w9 w63x := HB62.out.trans ((Fr.of_grown hg63).below (by intro y hy; exact own_base HO62.out (Option.mem_toList.1 hy)) HB62.out.size)
                have HB63 := Lib.hid hb63
                refine hK.out _ _ ⟨cell_kept f1 hb63, cell_kept f2 hb63, hb63⟩ (fun hS63 => ?_)
                clear hK K hb63 ho63 hg63 hn63 hk63 hS62
                (try simp only [Act.put]); (try simp only [List.setIfInBounds_toArray]); (try simp only [List.set_cons_succ]); (try simp only [List.set_cons_zero])
                refine wpAnyH_take (i := 19) (v := ?v64) rfl (by kernel_rfl) (by kernel_rfl) (by kernel_rfl) (fun _ _ _ h => h) (Or.inl ⟨by rfl, ?hy64⟩) (by assumption) ?rest64
                case hy64 => (intro _ hSw; (try dsimp only at hSw); go_simp; (try with_reducible rfl))
                (try simp only [Act.put]); (try simp only [List.setIfInBounds_toArray]); (try simp only [List.set_cons_succ]); (try simp only [List.set_cons_zero])
                refine wpAnyH_done (by kernel_rfl) ?_ _
                refine NoPanic.normal ?_
                clear hS63 hHeld
                generalize (if c3 = j then some (⟨q0, 0, none⟩ : Addr) else some ⟨q0, j, none⟩) = pp
                have HW63 : Hid (Below w.heap.size w w63x) := Lib.hid (below_and HBW.out HB63.out)
                have HE63 : Hid (w63x.ownsRow w.heap.size 9 1 v63 (nmS (S.take (i + 1))).length ((nmS (S.take (i + 1))).map Value.string)) := Lib.hid (by
                  have ho := own_mono HO63.out HBW.out.size
                  rw [HNX.out]
                  have e1 : ((ns.take j).map Value.string) ++ [Value.string nm] ++ ((ns.drop j).map Value.string) = ((ns.take j ++ nm :: ns.drop j).map Value.string) := by simp
                  have e2 : j + 1 + (ns.length - j) = (ns.take j ++ nm :: ns.drop j).length := by have := HJ.out; rw [List.length_append, List.length_cons, List.length_take, List.length_drop]; omega
                  rw [e1, e2] at ho
                  exact ho)
                go_wp2
                go_roundw
                case rel => exact ⟨i + 1, hlt, by go_num, HE63, HW63⟩
                case measure => simp [intOf]; omega
            · have HI5 : Hid (decide (j < ns.length) = false) := Lib.hid (by simpa using hin)
              clear hin
              go_wp2
              refine wp_region_past (by kernel_rfl) (by kernel_rfl) ?_
              repeat (go_big_quiet_step (fail))
              rw [HI5.out]
              repeat (go_big_quiet_step (fail))
              refine wpQuiet_nil ?_
              intro _ hw'
              obtain ⟨s9, hw''⟩ := hw'
              subst hw''
              obtain ⟨w9, h9, e9⟩ : ∃ w9, Below wr.heap.size wr w9 ∧ w9 = s9.val := ⟨_, s9.h, rfl⟩
              rw [← e9]
              have f1 : w9.cell? ⟨b, 1, none⟩ = some (.slice (some ⟨g, o, none⟩) S.length c) := (HRm.out.kept h9).blk.cell (j := 1) rfl
              have f2 : w9.cell? ⟨g, o + i * 2, none⟩ = some (.string nm) := cell_kept (cell_kept HEX.out HBm.out) h9
              have HN9 := Lib.hid (own_fr HNm.out (Fr.of_below h9 []) (fun _ _ => by simp))
              have HBW : Hid (Below w.heap.size w w9) := Lib.hid (below_and HB.out (below_and HBm.out h9))
              clear h9 e9 x0 x4
              go_upto_region 8 with fail
              refine wp_region_noPanic ?_
              refine wp_region_held_drew (S := fun w' => w'.cell? ⟨b, 1, none⟩ = some (.slice (some ⟨g, o, none⟩) S.length c) ∧ w'.cell? ⟨g, o + i * 2, none⟩ = some (.string nm) ∧ Below w9.heap.size w9 w') (by kernel_rfl) ⟨f1, f2, below_drewN 1⟩ (fun hHeld => ?_)
              have HB65 : Hid (Below w9.heap.size w9 w9.drew) := Lib.hid (below_drewN 1)
              have hS65 : True := trivial
              obtain ⟨wd65, hwd⟩ : ∃ x, x = w9.drew := ⟨_, rfl⟩
              rw [← hwd] at hHeld HB65 ⊢
              clear hwd
              refine wpAnyH_take (i := 1) (v := ?v66) rfl (by kernel_rfl) (by kernel_rfl) (by kernel_rfl) (fun _ _ _ h => h) (Or.inl ⟨by rfl, ?hy66⟩) (by assumption) ?rest66
              case hy66 => (intro _ hSw; (try dsimp only at hSw); go_simp; (try with_reducible rfl))
              (try simp only [Act.put]); (try simp only [List.setIfInBounds_toArray]); (try simp only [List.set_cons_succ]); (try simp only [List.set_cons_zero])
              refine wpAnyH_take (i := 2) (v := ?v67) rfl (by kernel_rfl) (by kernel_rfl) (by kernel_rfl) (fun _ _ _ h => h) (Or.inl ⟨by rfl, ?hy67⟩) (by assumption) ?rest67
              case hy67 => (intro _ hSw; (try dsimp only at hSw); go_simp; (try with_reducible rfl))
              (try simp only [Act.put]); (try simp only [List.setIfInBounds_toArray]); (try simp only [List.set_cons_succ]); (try simp only [List.set_cons_zero])
              refine wpAnyH_take (i := 3) (v := ?v68) rfl (by kernel_rfl) (by kernel_rfl) (by kernel_rfl) (fun _ _ _ h => h) (Or.inl ⟨by rfl, ?hy68⟩) (by assumption) ?rest68
              case hy68 => (intro _ hSw; (try dsimp only at hSw); go_simp; (try with_reducible rfl))
              (try simp only [Act.put]); (try simp only [List.setIfInBounds_toArray]); (try simp only [List.set_cons_succ]); (try simp only [List.set_cons_zero])
              refine wpAnyH_take (i := 5) (v := ?v69) rfl (by kernel_rfl) (by kernel_rfl) (by kernel_rfl) (fun _ _ _ h => h) (Or.inl ⟨by rfl, ?hy69⟩) (by assumption) ?rest69
              case hy69 => (intro _ hSw; (try dsimp only at hSw); go_simp; (try with_reducible rfl))
              (try simp only [Act.put]); (try simp only [List.setIfInBounds_toArray]); (try simp only [List.set_cons_succ]); (try simp only [List.set_cons_zero])
              refine wpAnyH_take (i := 6) (v := ?v70) rfl (by kernel_rfl) (by kernel_rfl) (by kernel_rfl) (fun _ _ _ h => h) (Or.inl ⟨by rfl, ?hy70⟩) (by assumption) ?rest70
              case hy70 => (intro _ hSw; (try dsimp only at hSw); go_simp; (try with_reducible rfl))
              (try simp only [Act.put]); (try simp only [List.setIfInBounds_toArray]); (try simp only [List.set_cons_succ]); (try simp only [List.set_cons_zero])
              refine wpAnyH_take (i := 7) (v := ?v71) rfl (by kernel_rfl) (by kernel_rfl) (by kernel_rfl) (fun _ _ _ h => h) (Or.inl ⟨by rfl, ?hy71⟩) (by assumption) ?rest71
              case hy71 => (intro _ hSw; (try dsimp only at hSw); go_simp; (try with_reducible rfl))
              (try simp only [Act.put]); (try simp only [List.setIfInBounds_toArray]); (try simp only [List.set_cons_succ]); (try simp only [List.set_cons_zero])
              refine wpAnyH_take (i := 8) (v := ?v72) rfl (by kernel_rfl) (by kernel_rfl) (by kernel_rfl) (fun _ _ _ h => h) (Or.inl ⟨by rfl, ?hy72⟩) (by assumption) ?rest72
              case hy72 => (intro _ hSw; (try dsimp only at hSw); go_simp; (try with_reducible rfl))
              (try simp only [Act.put]); (try simp only [List.setIfInBounds_toArray]); (try simp only [List.set_cons_succ]); (try simp only [List.set_cons_zero])
              refine wpAnyH_take (i := 9) (v := ?v73) rfl (by kernel_rfl) (by kernel_rfl) (by kernel_rfl) (fun _ _ _ h => h) (Or.inl ⟨by rfl, ?hy73⟩) (by assumption) ?rest73
              case hy73 => (intro _ hSw; (try dsimp only at hSw); go_simp; (try with_reducible rfl))
              (try simp only [Act.put]); (try simp only [List.setIfInBounds_toArray]); (try simp only [List.set_cons_succ]); (try simp only [List.set_cons_zero])
              refine wpAnyH_take (i := 10) (v := ?v74) rfl (by kernel_rfl) (by kernel_rfl) (by kernel_rfl) (fun _ _ _ h => h) (Or.inl ⟨by rfl, ?hy74⟩) (by assumption) ?rest74
              case hy74 => (intro _ hSw; (try dsimp only at hSw); go_simp; (try with_reducible rfl))
              (try simp only [Act.put]); (try simp only [List.setIfInBounds_toArray]); (try simp only [List.set_cons_succ]); (try simp only [List.set_cons_zero])
              refine wpAnyH_take (i := 11) (v := ?v75) rfl (by kernel_rfl) (by kernel_rfl) (by kernel_rfl) (fun _ _ _ h => h) (Or.inl ⟨by rfl, ?hy75⟩) (by assumption) ?rest75
              case hy75 => (intro _ hSw; (try dsimp only at hSw); go_simp; (try with_reducible rfl))
              (try simp only [Act.put]); (try simp only [List.setIfInBounds_toArray]); (try simp only [List.set_cons_succ]); (try simp only [List.set_cons_zero])
              refine wpAnyH_take (i := 12) (v := ?v76) rfl (by kernel_rfl) (by kernel_rfl) (by kernel_rfl) (fun _ _ _ h => h) (Or.inl ⟨by rfl, ?hy76⟩) (by assumption) ?rest76
              case hy76 => (intro _ hSw; (try dsimp only at hSw); go_simp; (try with_reducible rfl))
              (try simp only [Act.put]); (try simp only [List.setIfInBounds_toArray]); (try simp only [List.set_cons_succ]); (try simp only [List.set_cons_zero])
              refine wpAnyH_take (i := 15) (v := ?v77) rfl (by kernel_rfl) (by kernel_rfl) (by kernel_rfl) (fun _ _ _ h => h) (Or.inl ⟨by rfl, ?hy77⟩) (by assumption) ?rest77
              case hy77 => (intro _ hSw; (try dsimp only at hSw); go_simp; (try with_reducible rfl))
              (try simp only [Act.put]); (try simp only [List.setIfInBounds_toArray]); (try simp only [List.set_cons_succ]); (try simp only [List.set_cons_zero])
              refine wpAnyH_take (i := 16) (v := ?v78) rfl (by kernel_rfl) (by kernel_rfl) (by kernel_rfl) (fun _ _ _ h => h) (Or.inl ⟨by rfl, ?hy78⟩) (by assumption) ?rest78
              case hy78 => (intro _ hSw; (try dsimp only at hSw); go_simp; (try with_reducible rfl))
              (try simp only [Act.put]); (try simp only [List.setIfInBounds_toArray]); (try simp only [List.set_cons_succ]); (try simp only [List.set_cons_zero])
              refine wpAnyH_take (i := 17) (v := ?v79) rfl (by kernel_rfl) (by kernel_rfl) (by kernel_rfl) (fun _ _ _ h => h) (Or.inl ⟨by rfl, ?hy79⟩) (by assumption) ?rest79
              case hy79 => (intro _ hSw; (try dsimp only at hSw); go_simp; (try with_reducible rfl))
              (try simp only [Act.put]); (try simp only [List.setIfInBounds_toArray]); (try simp only [List.set_cons_succ]); (try simp only [List.set_cons_zero])
              refine wpAnyH_ready (rs := [0, 13]) (by kernel_rfl) (by simp) ?_
              refine (AllReadyH.cons rfl (fun K hK => ?_) (AllReadyH.cons rfl (fun K hK => ?_) AllReadyH.nil))
              · (try simp only [List.getElem_toArray]); (try simp only [List.getElem_cons_succ]); (try simp only [List.getElem_cons_zero])
                go_simp
                obtain ⟨w80x, hw80⟩ : ∃ x, x = wd65.alloc (.cells #[] 9) := ⟨_, rfl⟩
                obtain ⟨z80, hz80⟩ : ∃ x, x = wd65.heap.size := ⟨_, rfl⟩
                have hn80 : Below wd65.heap.size wd65 w80x := by rw [hw80]; exact below_alloc _ _
                have hb80 : Below w9.heap.size w9 w80x := below_and HB65.out hn80
                have HB80 := Lib.hid hb80
                have HO80 : Hid (w80x.ownsRow w9.heap.size 9 1 (.slice (some ⟨z80, 0, none⟩) 0 0) 0 []) := Lib.hid (by rw [hw80, hz80]; exact World.ownsRow_made wd65 #[] 0 HB65.out.size (by decide) rfl)
                rw [← hw80, ← hz80]
                refine hK.out _ _ ⟨cell_kept f1 hb80, cell_kept f2 hb80, hb80⟩ (fun hS80 => ?_)
                clear hK K hb80 hw80 hz80 hn80 hS65
                (try simp only [Act.put]); (try simp only [List.setIfInBounds_toArray]); (try simp only [List.set_cons_succ]); (try simp only [List.set_cons_zero])
                refine wpAnyH_ready (rs := [4, 13]) (by kernel_rfl) (by simp) ?_
                refine (AllReadyH.cons rfl (fun K hK => ?_) (AllReadyH.cons rfl (fun K hK => ?_) AllReadyH.nil))
                · refine step_app rfl (.tmp 36) (.tmp 39) 44 44 rfl w9.heap.size 9 i0 (.string ⟨#[]⟩) 1 16 Try.underlying44 hi0 hz0 hz1 hz2 rfl (.slice (some ⟨z80, 0, none⟩) 0 0) 0 [] (by rfl) HO80.out (.slice (some ⟨q0, 0, none⟩) j c3) j ((ns.take j).map Value.string) (by rfl) (Row.src Try.underlying44 (by have := row_partS (own_fr HN9.out (Fr.of_below HB80.out []) (fun _ _ => by simp)) ns_one (o := 0) (m := j) (c' := c3) (by have := HJ.out; omega) (by have := HJ.out; omega) hcm3 (some ⟨q0, 0, none⟩) (by simp) (fun _ => by simp); simpa using this)) (by have := HNL.out; have := HJ.out; unfold maxLen; omega) (by have := HNL.out; have := HJ.out; omega) HB80.out.size ?_
                  intro v81 w81x ho81 hg81 hn81 hk81
                  have HO81 : Hid (w81x.ownsRow w9.heap.size 9 1 v81 j ((ns.take j).map Value.string)) := Lib.hid (by simpa using ho81)
                  have hb81 : Below w9.heap.size w9 w81x := HB80.out.trans ((Fr.of_grown hg81).below (by intro y hy; exact own_base HO80.out (Option.mem_toList.1 hy)) HB80.out.size)
                  have HB81 := Lib.hid hb81
                  refine hK.out _ _ ⟨cell_kept f1 hb81, cell_kept f2 hb81, hb81⟩ (fun hS81 => ?_)
                  clear hK K hb81 ho81 hg81 hn81 hk81 hS80
                  (try simp only [Act.put]); (try simp only [List.setIfInBounds_toArray]); (try simp only [List.set_cons_succ]); (try simp only [List.set_cons_zero])
                  refine wpAnyH_ready (rs := [13]) (by kernel_rfl) (by simp) ?_
                  refine (AllReadyH.cons rfl (fun K hK => ?_) AllReadyH.nil)
                  (try simp only [List.getElem_toArray]); (try simp only [List.getElem_cons_succ]); (try simp only [List.getElem_cons_zero])
                  go_simp
                  obtain ⟨w82x, hw82⟩ : ∃ x, x = w81x.alloc (.cells #[.string nm] 9) := ⟨_, rfl⟩
                  obtain ⟨z82, hz82⟩ : ∃ x, x = w81x.heap.size := ⟨_, rfl⟩
                  have hn82 : Below w81x.heap.size w81x w82x := by rw [hw82]; exact below_alloc _ _
                  have hb82 : Below w9.heap.size w9 w82x := below_and HB81.out hn82
                  have HB82 := Lib.hid hb82
                  have HY82 : Hid (Blk w82x z82 [.string nm] 9) := Lib.hid (by rw [hw82, hz82]; exact Blk.made w81x [.string nm] _)
                  have HO82 := Lib.hid (own_fr HO81.out (Fr.of_below hn82 []) (fun _ _ => by simp))
                  have HNE82 : Hid (∀ q, (v81 : Value).ownBlock = some q → q ≠ z82) := Lib.hid (fun q hq => by have := own_lt HO81.out hq; omega)
                  rw [← hw82, ← hz82]
                  refine hK.out _ _ ⟨cell_kept f1 hb82, cell_kept f2 hb82, hb82⟩ (fun hS82 => ?_)
                  clear hK K hb82 hw82 hz82 hn82 hS81
                  (try simp only [Act.put]); (try simp only [List.setIfInBounds_toArray]); (try simp only [List.set_cons_succ]); (try simp only [List.set_cons_zero])
                  refine wpAnyH_ready (rs := [14]) (by kernel_rfl) (by simp) ?_
                  refine (AllReadyH.cons rfl (fun K hK => ?_) AllReadyH.nil)
                  refine step_app rfl (.tmp 40) (.tmp 49) 44 44 rfl w9.heap.size 9 i0 (.string ⟨#[]⟩) 1 16 Try.underlying44 hi0 hz0 hz1 hz2 rfl v81 j ((ns.take j).map Value.string) (by rfl) HO82.out (.slice (some ⟨z82, 0, none⟩) 1 1) 1 [.string nm] (by rfl) (src_block Try.underlying44 _ z82 #[.string nm] HY82.out rfl (by simp [Value.oneCell'])) (by have := HNL.out; have := HJ.out; unfold maxLen; omega) (by have := HNL.out; have := HJ.out; omega) HB82.out.size ?_
                  intro v83 w83x ho83 hg83 hn83 hk83
                  have HO83 : Hid (w83x.ownsRow w9.heap.size 9 1 v83 (j + 1) (((ns.take j).map Value.string) ++ [.string nm])) := Lib.hid (ho83)
                  have hb83 : Below w9.heap.size w9 w83x := HB82.out.trans ((Fr.of_grown hg83).below (by intro y hy; exact own_base HO82.out (Option.mem_toList.1 hy)) HB82.out.size)
                  have HB83 := Lib.hid hb83
                  refine hK.out _ _ ⟨cell_kept f1 hb83, cell_kept f2 hb83, hb83⟩ (fun hS83 => ?_)
                  clear hK K hb83 ho83 hg83 hn83 hk83 hS82
                  (try simp only [Act.put]); (try simp only [List.setIfInBounds_toArray]); (try simp only [List.set_cons_succ]); (try simp only [List.set_cons_zero])
                  refine wpAnyH_ready (rs := [18]) (by kernel_rfl) (by simp) ?_
                  refine (AllReadyH.cons rfl (fun K hK => ?_) AllReadyH.nil)
                  refine step_app rfl (.tmp 50) (.tmp 53) 44 44 rfl w9.heap.size 9 i0 (.string ⟨#[]⟩) 1 16 Try.underlying44 hi0 hz0 hz1 hz2 rfl v83 (j + 1) (((ns.take j).map Value.string) ++ [.string nm]) (by rfl) HO83.out (.slice (if c3 = j then some ⟨q0, 0, none⟩ else some ⟨q0, j, none⟩) (ns.length - j) (c3 - j)) (ns.length - j) ((ns.drop j).map Value.string) (by rfl) (Row.src Try.underlying44 (by have := row_partS (own_fr HN9.out (Fr.of_below HB83.out []) (fun _ _ => by simp)) ns_one (o := j) (m := ns.length - j) (c' := c3 - j) (by have := HJ.out; omega) (by omega) (by omega) (if c3 = j then some ⟨q0, 0, none⟩ else some ⟨q0, j, none⟩) (by split <;> simp) (fun _ => by rw [if_neg (by have := HJ.out; omega)]; simp); simp only [Nat.mul_one] at this; rw [List.take_of_length_le (by simp)] at this; simpa [List.map_drop] using this)) (by have := HNL.out; have := HJ.out; unfold maxLen; omega) (by have := HNL.out; have := HJ.out; omega) HB83.out.size ?_
                  intro v84 w84x ho84 hg84 hn84 hk84
                  have HO84 : Hid (w84x.ownsRow w9.heap.size 9 1 v84 (j + 1 + (ns.length - j)) (((ns.take j).map Value.string) ++ [.string nm] ++ ((ns.drop j).map Value.string))) := Lib.hid (ho84)
                  have hb84 : Below w9.heap.size w9 w84x := HB83.out.trans ((Fr.of_grown hg84).below (by intro y hy; exact own_base HO83.out (Option.mem_toList.1 hy)) HB83.out.size)
                  have HB84 := Lib.hid hb84
                  refine hK.out _ _ ⟨cell_kept f1 hb84, cell_kept f2 hb84, hb84⟩ (fun hS84 => ?_)
                  clear hK K hb84 ho84 hg84 hn84 hk84 hS83
                  (try simp only [Act.put]); (try simp only [List.setIfInBounds_toArray]); (try simp only [List.set_cons_succ]); (try simp only [List.set_cons_zero])
                  refine wpAnyH_take (i := 19) (v := ?v85) rfl (by kernel_rfl) (by kernel_rfl) (by kernel_rfl) (fun _ _ _ h => h) (Or.inl ⟨by rfl, ?hy85⟩) (by assumption) ?rest85
                  case hy85 => (intro _ hSw; (try dsimp only at hSw); go_simp; (try with_reducible rfl))
                  (try simp only [Act.put]); (try simp only [List.setIfInBounds_toArray]); (try simp only [List.set_cons_succ]); (try simp only [List.set_cons_zero])
                  refine wpAnyH_done (by kernel_rfl) ?_ _
                  refine NoPanic.normal ?_
                  clear hS84 hHeld
                  generalize (if c3 = j then some (⟨q0, 0, none⟩ : Addr) else some ⟨q0, j, none⟩) = pp
                  have HW84 : Hid (Below w.heap.size w w84x) := Lib.hid (below_and HBW.out HB84.out)
                  have HE84 : Hid (w84x.ownsRow w.heap.size 9 1 v84 (nmS (S.take (i + 1))).length ((nmS (S.take (i + 1))).map Value.string)) := Lib.hid (by
                    have ho := own_mono HO84.out HBW.out.size
                    rw [HNX.out]
                    have e1 : ((ns.take j).map Value.string) ++ [Value.string nm] ++ ((ns.drop j).map Value.string) = ((ns.take j ++ nm :: ns.drop j).map Value.string) := by simp
                    have e2 : j + 1 + (ns.length - j) = (ns.take j ++ nm :: ns.drop j).length := by have := HJ.out; rw [List.length_append, List.length_cons, List.length_take, List.length_drop]; omega
                    rw [e1, e2] at ho
                    exact ho)
                  go_wp2
                  go_roundw
                  case rel => exact ⟨i + 1, hlt, by go_num, HE84, HW84⟩
                  case measure => simp [intOf]; omega
                · (try simp only [List.getElem_toArray]); (try simp only [List.getElem_cons_succ]); (try simp only [List.getElem_cons_zero])
                  go_simp
                  obtain ⟨w86x, hw86⟩ : ∃ x, x = w80x.alloc (.cells #[.string nm] 9) := ⟨_, rfl⟩
                  obtain ⟨z86, hz86⟩ : ∃ x, x = w80x.heap.size := ⟨_, rfl⟩
                  have hn86 : Below w80x.heap.size w80x w86x := by rw [hw86]; exact below_alloc _ _
                  have hb86 : Below w9.heap.size w9 w86x := below_and HB80.out hn86
                  have HB86 := Lib.hid hb86
                  have HY86 : Hid (Blk w86x z86 [.string nm] 9) := Lib.hid (by rw [hw86, hz86]; exact Blk.made w80x [.string nm] _)
                  have HO86 := Lib.hid (own_fr HO80.out (Fr.of_below hn86 []) (fun _ _ => by simp))
                  have HNE86 : Hid (∀ q, ((.slice (some ⟨z80, 0, none⟩) 0 0) : Value).ownBlock = some q → q ≠ z86) := Lib.hid (fun q hq => by have := own_lt HO80.out hq; omega)
                  rw [← hw86, ← hz86]
                  refine hK.out _ _ ⟨cell_kept f1 hb86, cell_kept f2 hb86, hb86⟩ (fun hS86 => ?_)
                  clear hK K hb86 hw86 hz86 hn86 hS80
                  (try simp only [Act.put]); (try simp only [List.setIfInBounds_toArray]); (try simp only [List.set_cons_succ]); (try simp only [List.set_cons_zero])
                  refine wpAnyH_ready (rs := [4]) (by kernel_rfl) (by simp) ?_
                  refine (AllReadyH.cons rfl (fun K hK => ?_) AllReadyH.nil)
                  refine step_app rfl (.tmp 36) (.tmp 39) 44 44 rfl w9.heap.size 9 i0 (.string ⟨#[]⟩) 1 16 Try.underlying44 hi0 hz0 hz1 hz2 rfl (.slice (some ⟨z80, 0, none⟩) 0 0) 0 [] (by rfl) HO86.out (.slice (some ⟨q0, 0, none⟩) j c3) j ((ns.take j).map Value.string) (by rfl) (Row.src Try.underlying44 (by have := row_partS (own_fr HN9.out (Fr.of_below HB86.out []) (fun _ _ => by simp)) ns_one (o := 0) (m := j) (c' := c3) (by have := HJ.out; omega) (by have := HJ.out; omega) hcm3 (some ⟨q0, 0, none⟩) (by simp) (fun _ => by simp); simpa using this)) (by have := HNL.out; have := HJ.out; unfold maxLen; omega) (by have := HNL.out; have := HJ.out; omega) HB86.out.size ?_
                  intro v87 w87x ho87 hg87 hn87 hk87
                  have HO87 : Hid (w87x.ownsRow w9.heap.size 9 1 v87 j ((ns.take j).map Value.string)) := Lib.hid (by simpa using ho87)
                  have hb87 : Below w9.heap.size w9 w87x := HB86.out.trans ((Fr.of_grown hg87).below (by intro y hy; exact own_base HO86.out (Option.mem_toList.1 hy)) HB86.out.size)
                  have HB87 := Lib.hid hb87
                  have HY87 := Lib.hid (HY86.out.fr (Fr.of_grown hg87) (fun hm => HNE86.out _ (Option.mem_toList.1 hm) rfl))
                  have HNE87 : Hid (∀ q, v87.ownBlock = some q → q ≠ z86) := Lib.hid (fun q hq => by rcases hk87 q hq with h1 | h1; exact HNE86.out q h1; have := HY86.out.lt; omega)
                  refine hK.out _ _ ⟨cell_kept f1 hb87, cell_kept f2 hb87, hb87⟩ (fun hS87 => ?_)
                  clear hK K hb87 ho87 hg87 hn87 hk87 hS86
                  (try simp only [Act.put]); (try simp only [List.setIfInBounds_toArray]); (try simp only [List.set_cons_succ]); (try simp only [List.set_cons_zero])
                  refine wpAnyH_ready (rs := [14]) (by kernel_rfl) (by simp) ?_
                  refine (AllReadyH.cons rfl (fun K hK => ?_) AllReadyH.nil)
                  refine step_app rfl (.tmp 40) (.tmp 49) 44 44 rfl w9.heap.size 9 i0 (.string ⟨#[]⟩) 1 16 Try.underlying44 hi0 hz0 hz1 hz2 rfl v87 j ((ns.take j).map Value.string) (by rfl) HO87.out (.slice (some ⟨z86, 0, none⟩) 1 1) 1 [.string nm] (by rfl) (src_block Try.underlying44 _ z86 #[.string nm] HY87.out rfl (by simp [Value.oneCell'])) (by have := HNL.out; have := HJ.out; unfold maxLen; omega) (by have := HNL.out; have := HJ.out; omega) HB87.out.size ?_
                  intro v88 w88x ho88 hg88 hn88 hk88
                  have HO88 : Hid (w88x.ownsRow w9.heap.size 9 1 v88 (j + 1) (((ns.take j).map Value.string) ++ [.string nm])) := Lib.hid (ho88)
                  have hb88 : Below w9.heap.size w9 w88x := HB87.out.trans ((Fr.of_grown hg88).below (by intro y hy; exact own_base HO87.out (Option.mem_toList.1 hy)) HB87.out.size)
                  have HB88 := Lib.hid hb88
                  refine hK.out _ _ ⟨cell_kept f1 hb88, cell_kept f2 hb88, hb88⟩ (fun hS88 => ?_)
                  clear hK K hb88 ho88 hg88 hn88 hk88 hS87
                  (try simp only [Act.put]); (try simp only [List.setIfInBounds_toArray]); (try simp only [List.set_cons_succ]); (try simp only [List.set_cons_zero])
                  refine wpAnyH_ready (rs := [18]) (by kernel_rfl) (by simp) ?_
                  refine (AllReadyH.cons rfl (fun K hK => ?_) AllReadyH.nil)
                  refine step_app rfl (.tmp 50) (.tmp 53) 44 44 rfl w9.heap.size 9 i0 (.string ⟨#[]⟩) 1 16 Try.underlying44 hi0 hz0 hz1 hz2 rfl v88 (j + 1) (((ns.take j).map Value.string) ++ [.string nm]) (by rfl) HO88.out (.slice (if c3 = j then some ⟨q0, 0, none⟩ else some ⟨q0, j, none⟩) (ns.length - j) (c3 - j)) (ns.length - j) ((ns.drop j).map Value.string) (by rfl) (Row.src Try.underlying44 (by have := row_partS (own_fr HN9.out (Fr.of_below HB88.out []) (fun _ _ => by simp)) ns_one (o := j) (m := ns.length - j) (c' := c3 - j) (by have := HJ.out; omega) (by omega) (by omega) (if c3 = j then some ⟨q0, 0, none⟩ else some ⟨q0, j, none⟩) (by split <;> simp) (fun _ => by rw [if_neg (by have := HJ.out; omega)]; simp); simp only [Nat.mul_one] at this; rw [List.take_of_length_le (by simp)] at this; simpa [List.map_drop] using this)) (by have := HNL.out; have := HJ.out; unfold maxLen; omega) (by have := HNL.out; have := HJ.out; omega) HB88.out.size ?_
                  intro v89 w89x ho89 hg89 hn89 hk89
                  have HO89 : Hid (w89x.ownsRow w9.heap.size 9 1 v89 (j + 1 + (ns.length - j)) (((ns.take j).map Value.string) ++ [.string nm] ++ ((ns.drop j).map Value.string))) := Lib.hid (ho89)
                  have hb89 : Below w9.heap.size w9 w89x := HB88.out.trans ((Fr.of_grown hg89).below (by intro y hy; exact own_base HO88.out (Option.mem_toList.1 hy)) HB88.out.size)
                  have HB89 := Lib.hid hb89
                  refine hK.out _ _ ⟨cell_kept f1 hb89, cell_kept f2 hb89, hb89⟩ (fun hS89 => ?_)
                  clear hK K hb89 ho89 hg89 hn89 hk89 hS88
                  (try simp only [Act.put]); (try simp only [List.setIfInBounds_toArray]); (try simp only [List.set_cons_succ]); (try simp only [List.set_cons_zero])
                  refine wpAnyH_take (i := 19) (v := ?v90) rfl (by kernel_rfl) (by kernel_rfl) (by kernel_rfl) (fun _ _ _ h => h) (Or.inl ⟨by rfl, ?hy90⟩) (by assumption) ?rest90
                  case hy90 => (intro _ hSw; (try dsimp only at hSw); go_simp; (try with_reducible rfl))
                  (try simp only [Act.put]); (try simp only [List.setIfInBounds_toArray]); (try simp only [List.set_cons_succ]); (try simp only [List.set_cons_zero])
                  refine wpAnyH_done (by kernel_rfl) ?_ _
                  refine NoPanic.normal ?_
                  clear hS89 hHeld
                  generalize (if c3 = j then some (⟨q0, 0, none⟩ : Addr) else some ⟨q0, j, none⟩) = pp
                  have HW89 : Hid (Below w.heap.size w w89x) := Lib.hid (below_and HBW.out HB89.out)
                  have HE89 : Hid (w89x.ownsRow w.heap.size 9 1 v89 (nmS (S.take (i + 1))).length ((nmS (S.take (i + 1))).map Value.string)) := Lib.hid (by
                    have ho := own_mono HO89.out HBW.out.size
                    rw [HNX.out]
                    have e1 : ((ns.take j).map Value.string) ++ [Value.string nm] ++ ((ns.drop j).map Value.string) = ((ns.take j ++ nm :: ns.drop j).map Value.string) := by simp
                    have e2 : j + 1 + (ns.length - j) = (ns.take j ++ nm :: ns.drop j).length := by have := HJ.out; rw [List.length_append, List.length_cons, List.length_take, List.length_drop]; omega
                    rw [e1, e2] at ho
                    exact ho)
                  go_wp2
                  go_roundw
                  case rel => exact ⟨i + 1, hlt, by go_num, HE89, HW89⟩
                  case measure => simp [intOf]; omega
              · (try simp only [List.getElem_toArray]); (try simp only [List.getElem_cons_succ]); (try simp only [List.getElem_cons_zero])
                go_simp
                obtain ⟨w91x, hw91⟩ : ∃ x, x = wd65.alloc (.cells #[.string nm] 9) := ⟨_, rfl⟩
                obtain ⟨z91, hz91⟩ : ∃ x, x = wd65.heap.size := ⟨_, rfl⟩
                have hn91 : Below wd65.heap.size wd65 w91x := by rw [hw91]; exact below_alloc _ _
                have hb91 : Below w9.heap.size w9 w91x := below_and HB65.out hn91
                have HB91 := Lib.hid hb91
                have HY91 : Hid (Blk w91x z91 [.string nm] 9) := Lib.hid (by rw [hw91, hz91]; exact Blk.made wd65 [.string nm] _)
                rw [← hw91, ← hz91]
                refine hK.out _ _ ⟨cell_kept f1 hb91, cell_kept f2 hb91, hb91⟩ (fun hS91 => ?_)
                clear hK K hb91 hw91 hz91 hn91 hS65
                (try simp only [Act.put]); (try simp only [List.setIfInBounds_toArray]); (try simp only [List.set_cons_succ]); (try simp only [List.set_cons_zero])
                refine wpAnyH_ready (rs := [0]) (by kernel_rfl) (by simp) ?_
                refine (AllReadyH.cons rfl (fun K hK => ?_) AllReadyH.nil)
                (try simp only [List.getElem_toArray]); (try simp only [List.getElem_cons_succ]); (try simp only [List.getElem_cons_zero])
                go_simp
                obtain ⟨w92x, hw92⟩ : ∃ x, x = w91x.alloc (.cells #[] 9) := ⟨_, rfl⟩
                obtain ⟨z92, hz92⟩ : ∃ x, x = w91x.heap.size := ⟨_, rfl⟩
                have hn92 : Below w91x.heap.size w91x w92x := by rw [hw92]; exact below_alloc _ _
                have hb92 : Below w9.heap.size w9 w92x := below_and HB91.out hn92
                have HB92 := Lib.hid hb92
                have HO92 : Hid (w92x.ownsRow w9.heap.size 9 1 (.slice (some ⟨z92, 0, none⟩) 0 0) 0 []) := Lib.hid (by rw [hw92, hz92]; exact World.ownsRow_made w91x #[] 0 HB91.out.size (by decide) rfl)
                have HY92 := Lib.hid (HY91.out.kept hn92)
                have HNE92 : Hid (∀ q, (Value.slice (some ⟨z92, 0, none⟩) 0 0).ownBlock = some q → q ≠ z91) := Lib.hid (fun q hq => by simp [Value.ownBlock] at hq; have := HY91.out.lt; omega)
                rw [← hw92, ← hz92]
                refine hK.out _ _ ⟨cell_kept f1 hb92, cell_kept f2 hb92, hb92⟩ (fun hS92 => ?_)
                clear hK K hb92 hw92 hz92 hn92 hS91
                (try simp only [Act.put]); (try simp only [List.setIfInBounds_toArray]); (try simp only [List.set_cons_succ]); (try simp only [List.set_cons_zero])
                refine wpAnyH_ready (rs := [4]) (by kernel_rfl) (by simp) ?_
                refine (AllReadyH.cons rfl (fun K hK => ?_) AllReadyH.nil)
                refine step_app rfl (.tmp 36) (.tmp 39) 44 44 rfl w9.heap.size 9 i0 (.string ⟨#[]⟩) 1 16 Try.underlying44 hi0 hz0 hz1 hz2 rfl (.slice (some ⟨z92, 0, none⟩) 0 0) 0 [] (by rfl) HO92.out (.slice (some ⟨q0, 0, none⟩) j c3) j ((ns.take j).map Value.string) (by rfl) (Row.src Try.underlying44 (by have := row_partS (own_fr HN9.out (Fr.of_below HB92.out []) (fun _ _ => by simp)) ns_one (o := 0) (m := j) (c' := c3) (by have := HJ.out; omega) (by have := HJ.out; omega) hcm3 (some ⟨q0, 0, none⟩) (by simp) (fun _ => by simp); simpa using this)) (by have := HNL.out; have := HJ.out; unfold maxLen; omega) (by have := HNL.out; have := HJ.out; omega) HB92.out.size ?_
                intro v93 w93x ho93 hg93 hn93 hk93
                have HO93 : Hid (w93x.ownsRow w9.heap.size 9 1 v93 j ((ns.take j).map Value.string)) := Lib.hid (by simpa using ho93)
                have hb93 : Below w9.heap.size w9 w93x := HB92.out.trans ((Fr.of_grown hg93).below (by intro y hy; exact own_base HO92.out (Option.mem_toList.1 hy)) HB92.out.size)
                have HB93 := Lib.hid hb93
                have HY93 := Lib.hid (HY92.out.fr (Fr.of_grown hg93) (fun hm => HNE92.out _ (Option.mem_toList.1 hm) rfl))
                have HNE93 : Hid (∀ q, v93.ownBlock = some q → q ≠ z91) := Lib.hid (fun q hq => by rcases hk93 q hq with h1 | h1; exact HNE92.out q h1; have := HY92.out.lt; omega)
                refine hK.out _ _ ⟨cell_kept f1 hb93, cell_kept f2 hb93, hb93⟩ (fun hS93 => ?_)
                clear hK K hb93 ho93 hg93 hn93 hk93 hS92
                (try simp only [Act.put]); (try simp only [List.setIfInBounds_toArray]); (try simp only [List.set_cons_succ]); (try simp only [List.set_cons_zero])
                refine wpAnyH_ready (rs := [14]) (by kernel_rfl) (by simp) ?_
                refine (AllReadyH.cons rfl (fun K hK => ?_) AllReadyH.nil)
                refine step_app rfl (.tmp 40) (.tmp 49) 44 44 rfl w9.heap.size 9 i0 (.string ⟨#[]⟩) 1 16 Try.underlying44 hi0 hz0 hz1 hz2 rfl v93 j ((ns.take j).map Value.string) (by rfl) HO93.out (.slice (some ⟨z91, 0, none⟩) 1 1) 1 [.string nm] (by rfl) (src_block Try.underlying44 _ z91 #[.string nm] HY93.out rfl (by simp [Value.oneCell'])) (by have := HNL.out; have := HJ.out; unfold maxLen; omega) (by have := HNL.out; have := HJ.out; omega) HB93.out.size ?_
                intro v94 w94x ho94 hg94 hn94 hk94
                have HO94 : Hid (w94x.ownsRow w9.heap.size 9 1 v94 (j + 1) (((ns.take j).map Value.string) ++ [.string nm])) := Lib.hid (ho94)
                have hb94 : Below w9.heap.size w9 w94x := HB93.out.trans ((Fr.of_grown hg94).below (by intro y hy; exact own_base HO93.out (Option.mem_toList.1 hy)) HB93.out.size)
                have HB94 := Lib.hid hb94
                refine hK.out _ _ ⟨cell_kept f1 hb94, cell_kept f2 hb94, hb94⟩ (fun hS94 => ?_)
                clear hK K hb94 ho94 hg94 hn94 hk94 hS93
                (try simp only [Act.put]); (try simp only [List.setIfInBounds_toArray]); (try simp only [List.set_cons_succ]); (try simp only [List.set_cons_zero])
                refine wpAnyH_ready (rs := [18]) (by kernel_rfl) (by simp) ?_
                refine (AllReadyH.cons rfl (fun K hK => ?_) AllReadyH.nil)
                refine step_app rfl (.tmp 50) (.tmp 53) 44 44 rfl w9.heap.size 9 i0 (.string ⟨#[]⟩) 1 16 Try.underlying44 hi0 hz0 hz1 hz2 rfl v94 (j + 1) (((ns.take j).map Value.string) ++ [.string nm]) (by rfl) HO94.out (.slice (if c3 = j then some ⟨q0, 0, none⟩ else some ⟨q0, j, none⟩) (ns.length - j) (c3 - j)) (ns.length - j) ((ns.drop j).map Value.string) (by rfl) (Row.src Try.underlying44 (by have := row_partS (own_fr HN9.out (Fr.of_below HB94.out []) (fun _ _ => by simp)) ns_one (o := j) (m := ns.length - j) (c' := c3 - j) (by have := HJ.out; omega) (by omega) (by omega) (if c3 = j then some ⟨q0, 0, none⟩ else some ⟨q0, j, none⟩) (by split <;> simp) (fun _ => by rw [if_neg (by have := HJ.out; omega)]; simp); simp only [Nat.mul_one] at this; rw [List.take_of_length_le (by simp)] at this; simpa [List.map_drop] using this)) (by have := HNL.out; have := HJ.out; unfold maxLen; omega) (by have := HNL.out; have := HJ.out; omega) HB94.out.size ?_
                intro v95 w95x ho95 hg95 hn95 hk95
                have HO95 : Hid (w95x.ownsRow w9.heap.size 9 1 v95 (j + 1 + (ns.length - j)) (((ns.take j).map Value.string) ++ [.string nm] ++ ((ns.drop j).map Value.string))) := Lib.hid (ho95)
                have hb95 : Below w9.heap.size w9 w95x := HB94.out.trans ((Fr.of_grown hg95).below (by intro y hy; exact own_base HO94.out (Option.mem_toList.1 hy)) HB94.out.size)
                have HB95 := Lib.hid hb95
                refine hK.out _ _ ⟨cell_kept f1 hb95, cell_kept f2 hb95, hb95⟩ (fun hS95 => ?_)
                clear hK K hb95 ho95 hg95 hn95 hk95 hS94
                (try simp only [Act.put]); (try simp only [List.setIfInBounds_toArray]); (try simp only [List.set_cons_succ]); (try simp only [List.set_cons_zero])
                refine wpAnyH_take (i := 19) (v := ?v96) rfl (by kernel_rfl) (by kernel_rfl) (by kernel_rfl) (fun _ _ _ h => h) (Or.inl ⟨by rfl, ?hy96⟩) (by assumption) ?rest96
                case hy96 => (intro _ hSw; (try dsimp only at hSw); go_simp; (try with_reducible rfl))
                (try simp only [Act.put]); (try simp only [List.setIfInBounds_toArray]); (try simp only [List.set_cons_succ]); (try simp only [List.set_cons_zero])
                refine wpAnyH_done (by kernel_rfl) ?_ _
                refine NoPanic.normal ?_
                clear hS95 hHeld
                generalize (if c3 = j then some (⟨q0, 0, none⟩ : Addr) else some ⟨q0, j, none⟩) = pp
                have HW95 : Hid (Below w.heap.size w w95x) := Lib.hid (below_and HBW.out HB95.out)
                have HE95 : Hid (w95x.ownsRow w.heap.size 9 1 v95 (nmS (S.take (i + 1))).length ((nmS (S.take (i + 1))).map Value.string)) := Lib.hid (by
                  have ho := own_mono HO95.out HBW.out.size
                  rw [HNX.out]
                  have e1 : ((ns.take j).map Value.string) ++ [Value.string nm] ++ ((ns.drop j).map Value.string) = ((ns.take j ++ nm :: ns.drop j).map Value.string) := by simp
                  have e2 : j + 1 + (ns.length - j) = (ns.take j ++ nm :: ns.drop j).length := by have := HJ.out; rw [List.length_append, List.length_cons, List.length_take, List.length_drop]; omega
                  rw [e1, e2] at ho
                  exact ho)
                go_wp2
                go_roundw
                case rel => exact ⟨i + 1, hlt, by go_num, HE95, HW95⟩
                case measure => simp [intOf]; omega
    · obtain rfl : i = S.length := by omega
      have HE := HO.out
      rw [List.take_length] at HE
      have HEE := Lib.hid HE
      clear HE
      go_wp2
      go_ret
      exact ⟨_, rfl, HEE.out, HB.out⟩
end Go.Proofs.Ytmgcigohfccgeaa
