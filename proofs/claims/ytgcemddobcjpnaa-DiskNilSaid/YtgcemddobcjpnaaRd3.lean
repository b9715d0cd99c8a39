/- The document's disk: New, Free, SetFuse, left, Left, Names, Synced, Read. -/
import Derived.Test.YtgcemddobcjpnaaRd2
import Derived.Test.YtgcemddobcjpnaaClone
namespace Go.Proofs.Ytgcemddobcjpnaa
open Go.RowKit

section
variable {w : World} {g : Nat} {vF : Value} {D : Dk} {L : List Rf} {s : ByteArray}
theorem RDk.get_some (h : RDk w g vF D L) {r : Rf} (hp : kfnd Rf.key L s.data.toList = some r) : D.get s = some r.f := by unfold Dk.get; rw [h.find, hp]; rfl
theorem RDk.get_none (h : RDk w g vF D L) (hp : kfnd Rf.key L s.data.toList = none) : D.get s = none := by unfold Dk.get; rw [h.find, hp]; rfl
theorem place_yes (h : RDk w g vF D L) (hr : KRise Fl.key D.F) {r : Rf} (hp : kfnd Rf.key L s.data.toList = some r) :
    Calls Try.prog 64 #[ptr g, .string s] w fun e w' => e = .returned (.tuple #[.int .i64 (kpl Rf.key L s.data.toList : Int), .bool true]) ∧ w = w' := by
  have := rplace_any g vF D L s w h hr
  rw [hp] at this
  exact this
theorem place_no (h : RDk w g vF D L) (hr : KRise Fl.key D.F) (hp : kfnd Rf.key L s.data.toList = none) :
    Calls Try.prog 64 #[ptr g, .string s] w fun e w' => e = .returned (.tuple #[.int .i64 (kpl Rf.key L s.data.toList : Int), .bool false]) ∧ w = w' := by
  have := rplace_any g vF D L s w h hr
  rw [hp] at this
  exact this
theorem rask0 (l : List ByteArray) (v : Value) (h : RDk w g vF D L) (hv : Row w v 1 l.length (l.map Value.string)) (hl : ∀ s ∈ l, s.size ≤ maxLen) (ha : D.ask l = 0) :
    Calls Try.prog 63 #[ptr g, v] w fun e w' => e = .returned (.int .i64 0) ∧ w = w' :=
  (rasked_any g vF D L l v w h hv hl).mono fun _ _ ⟨h1, h2⟩ => ⟨by rw [h1, ha], h2⟩
end
theorem row1r (w : World) (s : ByteArray) (t : TypeId) : Row (w.alloc (.cells #[.string s] t)) (.slice (some ⟨w.heap.size, 0, none⟩) 1 1) 1 [s].length ([s].map Value.string) :=
  ⟨_, 1, rfl, Nat.le_refl _, by simp [maxLen], by simp, by simp [Value.oneCell'], by simp, .inr ⟨w.heap.size, 0, rfl, fun j u hj => by
    match j, hj with
    | 0, hj =>
      simp at hj
      subst hj
      exact (Blk.made w [.string s] t).cell (j := 0) rfl
    | j + 1, hj => simp at hj⟩⟩

theorem info_strr : (Try.prog.info? 9).map (fun i => (i.zero, i.size, i.bytes)) = some (some (.string ⟨#[]⟩), 1, 16) := by kernel_rfl

/-! New -/
set_option maxRecDepth 100000 in
set_option maxHeartbeats 1000000 in
theorem rnew_ok (r : Int) (w : World) (h1 : 0 ≤ r) (h2 : r ≤ 1073741824) :
    Calls Try.prog 23 #[.int .i64 r] w fun e w' => ∃ g, e = .returned (.tuple #[ptr g, .int .i64 0]) ∧ w.heap.size ≤ g ∧ RDk w' g (.slice none 0 0) ⟨r, [], false, 0, false, 0⟩ [] ∧ Below w.heap.size w w' := by
  have d1 : decide (r < 0) = false := by simp; omega
  have d2 : decide (1073741824 < r) = false := by simp; omega
  clear h1 h2
  go_enter Try.func23, Try.ntmps23
  go_wp2
  go_ret2
  exact ⟨w.heap.size, rfl, Nat.le_refl _, ⟨Blk.made w (rdC (.slice none 0 0) ⟨r, [], false, 0, false, 0⟩) 80, World.ownsRow_nil _ _ _ _, rfl, by simp⟩, below_alloc w _⟩
set_option maxRecDepth 100000 in
set_option maxHeartbeats 1000000 in
theorem rnew_bad (r : Int) (w : World) (h : r < 0 ∨ 1073741824 < r) :
    Calls Try.prog 23 #[.int .i64 r] w fun e w' => e = .returned (.tuple #[.pointer none, .int .i64 2]) ∧ w = w' := by
  by_cases h0 : r < 0
  · have d1 : decide (r < 0) = true := by simp; omega
    clear h h0
    go_enter Try.func23, Try.ntmps23
    go_wp2
    go_ret2
    exact ⟨rfl, rfl⟩
  · have d1 : decide (r < 0) = false := by simp; omega
    have d2 : decide (1073741824 < r) = true := by simp; omega
    clear h h0
    go_enter Try.func23, Try.ntmps23
    go_wp2
    go_ret2
    exact ⟨rfl, rfl⟩

section
variable (g : Nat) (vF : Value) (D : Dk) (L : List Rf) (w : World) (h : RDk w g vF D L)
include h
set_option maxRecDepth 100000 in
set_option maxHeartbeats 1000000 in
theorem rfree_any : Calls Try.prog 52 #[ptr g] w fun e w' => e = .returned (.int .i64 0) ∧ RdTo w w' g vF L D.free := by
  have H := Lib.hid h
  have c2 := h.blk.cell (j := 2) rfl
  have c3 := (h.blk.set 2 (.bool false)).cell (j := 3) rfl
  have f2 := h.blk.free 2
  have f3 := (h.blk.set 2 (.bool false)).free 3
  clear h
  go_enter Try.func52, Try.ntmps52
  go_wp2
  go_ret
  have hf : Frp (fun k => k = g) w ((w.setCell ⟨g, 2, none⟩ (.bool false)).setCell ⟨g, 3, none⟩ (.int .i64 0)) := ((Frp.refl (fun k => k = g) w).set (p := ⟨g, 2, none⟩) rfl _).set (p := ⟨g, 3, none⟩) rfl _
  exact ⟨rfl, vF, L, H.out.flds (D' := D.free) rfl hf ((H.out.blk.set 2 _).set 3 _), ⟨hf.mono (fun k hk => .inl hk), fun k hk => .inl hk⟩⟩
set_option maxRecDepth 100000 in
set_option maxHeartbeats 1000000 in
theorem rfuse_any (n : Int) : Calls Try.prog 51 #[ptr g, .int .i64 n] w fun e w' => e = .returned (.int .i64 (D.setFuse n).1) ∧ RdTo w w' g vF L (D.setFuse n).2 := by
  have H := Lib.hid h
  have c4 := h.blk.cell (j := 4) rfl
  cases hoff : D.off
  · rw [hoff] at c4
    by_cases hn : n < 0
    · have HF : Hid (D.setFuse n = (2, D)) := Lib.hid (by unfold Dk.setFuse; rw [if_neg (by rw [hoff]; simp), if_pos hn])
      clear h hoff
      go_enter Try.func51, Try.ntmps51
      go_wp2
      go_ret
      rw [HF.out]
      exact ⟨rfl, RdTo.same H.out (Below.refl _ _)⟩
    · have HF : Hid (D.setFuse n = (0, { D with fused := true, fuse := n })) := Lib.hid (by unfold Dk.setFuse; rw [if_neg (by rw [hoff]; simp), if_neg hn])
      have c2 := h.blk.cell (j := 2) rfl
      have c3 := (h.blk.set 2 (.bool true)).cell (j := 3) rfl
      have f2 := h.blk.free 2
      have f3 := (h.blk.set 2 (.bool true)).free 3
      clear h hoff
      go_enter Try.func51, Try.ntmps51
      go_wp2
      go_ret
      rw [HF.out]
      have hf : Frp (fun k => k = g) w ((w.setCell ⟨g, 2, none⟩ (.bool true)).setCell ⟨g, 3, none⟩ (.int .i64 n)) := ((Frp.refl (fun k => k = g) w).set (p := ⟨g, 2, none⟩) rfl _).set (p := ⟨g, 3, none⟩) rfl _
      exact ⟨rfl, vF, L, H.out.flds (D' := { D with fused := true, fuse := n }) rfl hf ((H.out.blk.set 2 _).set 3 _), ⟨hf.mono (fun k hk => .inl hk), fun k hk => .inl hk⟩⟩
  · rw [hoff] at c4
    have HF : Hid (D.setFuse n = (10, D)) := Lib.hid (by unfold Dk.setFuse; rw [if_pos hoff])
    clear h hoff
    go_enter Try.func51, Try.ntmps51
    go_wp2
    go_ret
    rw [HF.out]
    exact ⟨rfl, RdTo.same H.out (Below.refl _ _)⟩

/-! left -/
set_option maxRecDepth 100000 in
set_option maxHeartbeats 2000000 in
theorem rleft_any (M : Nat) (N : Int) (hi : DkI D M N) : Calls Try.prog 67 #[ptr g] w fun e w' => e = .returned (.int .i64 D.left) ∧ w = w' := by
  have H := Lib.hid h
  obtain ⟨p, c, rfl, hc, hm, -⟩ := h.shape
  have c0 := h.blk.cell (j := 0) rfl
  have c1 := h.blk.cell (j := 1) rfl
  have hml : maxLen ≤ 9223372036854775807 := by decide
  have hll : L.length ≤ 9223372036854775807 := by omega
  have HFI := Lib.hid hi.fits
  have hroom := hi.room
  have HTK : Hid (∀ k, k ≤ L.length → 0 ≤ ksum lenF ((L.take k).map Rf.f) ∧ ksum lenF ((L.take k).map Rf.f) ≤ Dk.bytes D.F) := Lib.hid (fun k hk => by
    refine ⟨ksum_nonneg (lenF_nn _), ?_⟩
    rw [bytes_sum, ← h.eq]
    conv => rhs; rw [← List.take_append_drop k L, List.map_append]
    have : ∀ A B : List Fl, ksum lenF (A ++ B) = ksum lenF A + ksum lenF B := fun A B => by unfold ksum; rw [List.map_append, List.sum_append]
    rw [this]
    have := ksum_nonneg (lenF_nn ((L.drop k).map Rf.f))
    omega)
  have HALL : Hid (ksum lenF (L.map Rf.f) = Dk.bytes D.F) := Lib.hid (by rw [h.eq, bytes_sum])
  clear h hi hml hm hc
  go_enter Try.func67, Try.ntmps67
  go_wp2
  go_loop [3, 4] (fun n i => ∃ k : Nat, k ≤ L.length ∧ i = .int .i64 (k : Int) ∧ n = .int .i64 (D.room - ksum lenF ((L.take k).map Rf.f))) (fun _ i => L.length - (intOf i).toNat)
  case atStart => exact ⟨0, Nat.zero_le _, rfl, by simp [ksum]⟩
  case round =>
    obtain ⟨k, hk, rfl, rfl⟩ := hrel
    have hb := HTK.out k hk
    by_cases hlt : k < L.length
    · obtain ⟨q, c', e, hc', -, e1, -⟩ := H.out.at hlt
      simp only [Value.slice.injEq] at e
      obtain ⟨rfl, -, rfl⟩ := e
      obtain ⟨pv, pc, hv, hpc, -⟩ := own_slice (H.out.body L[k] (List.getElem_mem hlt))
      have hstep : ksum lenF ((L.take (k + 1)).map Rf.f) = ksum lenF ((L.take k).map Rf.f) + (L[k].f.b.length : Int) := by
        rw [List.take_succ_eq_append_getElem hlt, List.map_append]
        unfold ksum
        rw [List.map_append, List.sum_append]
        simp [lenF]
      have hb2 := (HTK.out (k + 1) hlt).2
      rw [hstep] at hb2
      rw [hv] at e1
      obtain ⟨m, hm⟩ : ∃ m, m = L[k].f.b.length := ⟨_, rfl⟩
      rw [← hm] at e1 hb2 hstep hpc
      obtain ⟨z, hz⟩ : ∃ z, z = ksum lenF ((L.take k).map Rf.f) := ⟨_, rfl⟩
      rw [← hz] at hb hb2 hstep ⊢
      have HS := Lib.hid hstep
      have i1 : (k : Int) < (L.length : Int) := by omega
      have b0 : (0 : Int) ≤ (k : Int) := by omega
      have b1 : (0 : Int) ≤ z := hb.1
      have b2 : z + (m : Int) ≤ D.room := by have := HFI.out; omega
      have b3 : (0 : Int) ≤ (m : Int) := by omega
      clear hv hm hz hb hb2 hstep
      go_wp2
      go_round
      case rel => exact ⟨k + 1, hlt, by go_num, by rw [HS.out]; go_num⟩
      case measure => simp [intOf]; omega
    · obtain rfl : k = L.length := by omega
      rw [List.take_length]
      have HE := Lib.hid HALL.out
      go_wp2
      go_ret
      exact ⟨ret_int (by rw [HE.out]; rfl), rfl⟩
set_option maxRecDepth 100000 in
set_option maxHeartbeats 1000000 in
theorem rleftP_any (M : Nat) (N : Int) (hi : DkI D M N) : Calls Try.prog 58 #[ptr g] w fun e w' => e = .returned (.int .i64 D.leftP) ∧ w = w' := by
  have H := Lib.hid h
  have HI := Lib.hid hi
  have c4 := h.blk.cell (j := 4) rfl
  cases hoff : D.off
  · rw [hoff] at c4
    have HF : Hid (D.leftP = D.left) := Lib.hid (by unfold Dk.leftP; rw [if_neg (by rw [hoff]; simp)])
    clear h hoff hi
    go_enter Try.func58, Try.ntmps58
    go_wp2_with (go_at_call 67; refine (rleft_any g vF D L _ H.out M N HI.out).mono ?_; rintro e w4 ⟨rfl, rfl⟩)
    go_ret
    rw [HF.out]
    exact ⟨rfl, rfl⟩
  · rw [hoff] at c4
    have HF : Hid (D.leftP = 0) := Lib.hid (by unfold Dk.leftP; rw [if_pos hoff])
    clear h hoff hi
    go_enter Try.func58, Try.ntmps58
    go_wp2
    go_ret
    rw [HF.out]
    exact ⟨rfl, rfl⟩

/-! Names -/
set_option maxRecDepth 100000 in
set_option maxHeartbeats 2000000 in
theorem rnames_any (hl : L.length ≤ 100000) : Calls Try.prog 57 #[ptr g] w fun e w' => ∃ v, e = .returned v ∧ w'.ownsRow w.heap.size 9 1 v D.names.length (D.names.map Value.string) ∧ Below w.heap.size w w' := by
  obtain ⟨ix, hi, hz0, hz1, hz2⟩ := info_parts info_strr
  have H := Lib.hid h
  have HL := Lib.hid hl
  have c4 := h.blk.cell (j := 4) rfl
  obtain ⟨p, c, rfl, hc, hm, -⟩ := h.shape
  have c1 := h.blk.cell (j := 1) rfl
  have hml : maxLen ≤ 9223372036854775807 := by decide
  have hll : L.length ≤ 9223372036854775807 := by omega
  cases hoff : D.off
  · rw [hoff] at c4
    have HF : Hid (D.names = L.map fun r => r.f.n) := Lib.hid (by unfold Dk.names; rw [if_neg (by rw [hoff]; simp), ← h.eq, List.map_map]; rfl)
    clear h hoff hml hm hc hl
    go_enter Try.func57, Try.ntmps57
    go_wp2
    have HC4 := Lib.hid c4
    have HC1 := Lib.hid c1
    go_loopw [3, 4] (fun o i wr => ∃ k : Nat, k ≤ L.length ∧ i = .int .i64 (k : Int) ∧ Hid (wr.ownsRow w.heap.size 9 1 o k ((L.take k).map fun r : Rf => Value.string r.f.n)) ∧ Hid (Below w.heap.size w wr)) (fun _ i _ => L.length - (intOf i).toNat)
    case atStart => exact ⟨0, Nat.zero_le _, rfl, Lib.hid (World.ownsRow_nil _ _ _ _), Lib.hid (Below.refl _ _)⟩
    case round =>
      obtain ⟨k, hk, rfl, HO, HB⟩ := hrel
      have c4 := cell_kept HC4.out HB.out
      have c1 := cell_kept HC1.out HB.out
      by_cases hlt : k < L.length
      · obtain ⟨q, c', e, hc', e0, -, -⟩ := (H.out.kept HB.out).at hlt
        simp only [Value.slice.injEq] at e
        obtain ⟨rfl, -, rfl⟩ := e
        obtain ⟨nm, hnm⟩ : ∃ nm, nm = L[k].f.n := ⟨_, rfl⟩
        rw [← hnm] at e0
        have i1 : (k : Int) < (L.length : Int) := by omega
        have b0 : (0 : Int) ≤ (k : Int) := by omega
        have HT : Hid ((L.take (k + 1)).map (fun r : Rf => Value.string r.f.n) = (L.take k).map (fun r : Rf => Value.string r.f.n) ++ [.string nm]) := Lib.hid (by rw [List.take_succ_eq_append_getElem hlt, List.map_append, hnm]; rfl)
        have HOA := Lib.hid (own_keep HO.out (below_alloc wr (.cells #[.string nm] 9)))
        have HBS := Lib.hid HB.out.size
        clear hnm
        go_wp2_with (at_builtin; go_loud (refine wpList_app5 rfl _ _ 40 40 rfl w.heap.size 9 ix (.string ⟨#[]⟩) 1 16 Try.underlying40 hi hz0 hz1 hz2 rfl _ k ((L.take k).map fun r : Rf => Value.string r.f.n) rfl HOA.out _ 1 _ rfl (src_block Try.underlying40 _ _ #[_] (heap_alloc_new wr _) rfl (by simp [Value.oneCell'])) (by have := HL.out; unfold maxLen; omega) (by have := HL.out; omega) (by have := HBS.out; simp; omega) ?_; intro o4 w4 ho4 hg4 hn4; have HO4 := Lib.hid ho4; have HB4 : Hid (Below w.heap.size w w4) := Lib.hid ((below_and HB.out (below_alloc wr _)).trans ((Fr.of_grown hg4).below (by intro y hy; exact own_lo HO.out (Option.mem_toList.1 hy)) (by have := HBS.out; simp; omega))); clear ho4 hg4 hn4))
        go_roundw
        case rel => exact ⟨k + 1, hlt, by go_num, Lib.hid (by rw [HT.out]; exact HO4.out), HB4⟩
        case measure => simp [intOf]; omega
      · obtain rfl : k = L.length := by omega
        have HE : Hid (wr.ownsRow w.heap.size 9 1 _ L.length (L.map fun r : Rf => Value.string r.f.n)) := Lib.hid (by have := HO.out; rwa [List.take_length] at this)
        go_wp2
        go_ret
        rw [HF.out]
        exact ⟨_, rfl, by rw [List.length_map, List.map_map]; exact HE.out, HB.out⟩
  · rw [hoff] at c4
    have HF : Hid (D.names = []) := Lib.hid (by unfold Dk.names; rw [if_pos hoff])
    clear h hoff hml hm hc hl
    by_cases h0 : 0 < L.length
    · have i0 : (0 : Int) < (L.length : Int) := by omega
      go_enter Try.func57, Try.ntmps57
      go_wp2
      go_loop [3, 4] (fun o i => o = .slice none 0 0 ∧ i = .int .i64 0) (fun _ _ => 0)
      case atStart => exact ⟨rfl, rfl⟩
      case round =>
        obtain ⟨rfl, rfl⟩ := hrel
        go_wp2
        go_ret
        rw [HF.out]
        exact ⟨_, rfl, World.ownsRow_nil _ _ _ _, Below.refl _ _⟩
    · have i0 : ¬ (0 : Int) < (L.length : Int) := by omega
      go_enter Try.func57, Try.ntmps57
      go_wp2
      go_loop [3, 4] (fun o i => o = .slice none 0 0 ∧ i = .int .i64 0) (fun _ _ => 0)
      case atStart => exact ⟨rfl, rfl⟩
      case round =>
        obtain ⟨rfl, rfl⟩ := hrel
        go_wp2
        go_ret
        rw [HF.out]
        exact ⟨_, rfl, World.ownsRow_nil _ _ _ _, Below.refl _ _⟩

/-! Synced, Read -/
variable (s : ByteArray) (hs : s.size ≤ maxLen) (hr : KRise Fl.key D.F)
include hs hr
set_option maxRecDepth 100000 in
set_option maxHeartbeats 1000000 in
theorem rsynced_any : Calls Try.prog 55 #[ptr g, .string s] w fun e w' => e = .returned (.tuple #[.int .i64 (D.synced s).2, .int .i64 (D.synced s).1]) ∧ Below w.heap.size w w' := by
  have hb0 := below_alloc w (.cells #[.string s] 9)
  have HB0 := Lib.hid hb0
  have h0 := h.kept hb0
  have H0 := Lib.hid h0
  by_cases ha : D.ask [s] = 0
  · have HA := Lib.hid (rask0 [s] _ h0 (row1r w s 9) (by simpa using hs) ha)
    cases hp : kfnd Rf.key L s.data.toList with
    | none =>
      have HF : Hid (D.synced s = (6, 0)) := Lib.hid (by unfold Dk.synced; rw [if_neg (by rw [ha]; simp), h.get_none hp])
      have HP := Lib.hid (place_no h0 hr hp)
      clear h h0 hs hr ha hp hb0
      go_enter Try.func55, Try.ntmps55
      go_wp2_with (first
        | (go_at_call 63; refine HA.out.mono ?_; rintro e w3 ⟨rfl, rfl⟩)
        | (go_at_call 64; refine HP.out.mono ?_; rintro e w3 ⟨rfl, rfl⟩))
      go_ret2
      rw [HF.out]
      exact ⟨rfl, HB0.out⟩
    | some r =>
      have HF : Hid (D.synced s = (0, (r.f.s : Int))) := Lib.hid (by unfold Dk.synced; rw [if_neg (by rw [ha]; simp), h.get_some hp])
      have HP := Lib.hid (place_yes h0 hr hp)
      obtain ⟨hk, he⟩ := kfnd_place (h.rise hr) hp
      obtain ⟨k, hkk⟩ : ∃ k, k = kpl Rf.key L s.data.toList := ⟨_, rfl⟩
      simp only [← hkk] at hk he HP
      obtain ⟨q, c, rfl, hc, -, -, e2⟩ := h0.at hk
      rw [he] at e2
      have c1 := h0.blk.cell (j := 1) rfl
      have b0 : (0 : Int) ≤ (k : Int) := by omega
      have i1 : (k : Int) < (L.length : Int) := by omega
      clear h h0 hs hr ha hp hb0 he hkk
      go_enter Try.func55, Try.ntmps55
      go_wp2_with (first
        | (go_at_call 63; refine HA.out.mono ?_; rintro e w3 ⟨rfl, rfl⟩)
        | (go_at_call 64; refine HP.out.mono ?_; rintro e w3 ⟨rfl, rfl⟩))
      go_ret2
      rw [HF.out]
      exact ⟨rfl, HB0.out⟩
  · have HA := Lib.hid (rasked_any g vF D L [s] _ _ h0 (row1r w s 9) (by simpa using hs))
    have HF : Hid (D.synced s = (D.ask [s], 0)) := Lib.hid (by unfold Dk.synced; rw [if_pos ha])
    obtain ⟨q, hq⟩ : ∃ q, q = D.ask [s] := ⟨_, rfl⟩
    rw [← hq] at ha HF HA
    have q0 : (q != 0) = true := by simpa using ha
    clear h h0 hs hr ha hq hb0
    go_enter Try.func55, Try.ntmps55
    go_wp2_with (go_at_call 63; refine HA.out.mono ?_; rintro e w3 ⟨rfl, rfl⟩)
    go_ret2
    rw [HF.out]
    exact ⟨rfl, HB0.out⟩
set_option maxRecDepth 100000 in
set_option maxHeartbeats 1000000 in
theorem rread_any (M : Nat) (N : Int) (hi : DkI D M N) : Calls Try.prog 56 #[ptr g, .string s] w fun e w' => ∃ v, e = .returned (.tuple #[v, .int .i64 (D.read s).1]) ∧ Fresh w.heap.size w' v (D.read s).2 ∧ Below w.heap.size w w' := by
  have hb0 := below_alloc w (.cells #[.string s] 9)
  have HB0 := Lib.hid hb0
  have h0 := h.kept hb0
  have H0 := Lib.hid h0
  by_cases ha : D.ask [s] = 0
  · have HA := Lib.hid (rask0 [s] _ h0 (row1r w s 9) (by simpa using hs) ha)
    cases hp : kfnd Rf.key L s.data.toList with
    | none =>
      have HF : Hid (D.read s = (6, [])) := Lib.hid (by unfold Dk.read; rw [if_neg (by rw [ha]; simp), h.get_none hp])
      have HP := Lib.hid (place_no h0 hr hp)
      clear h h0 hs hr ha hp hb0 hi
      go_enter Try.func56, Try.ntmps56
      go_wp2_with (first
        | (go_at_call 63; refine HA.out.mono ?_; rintro e w3 ⟨rfl, rfl⟩)
        | (go_at_call 64; refine HP.out.mono ?_; rintro e w3 ⟨rfl, rfl⟩))
      go_ret2
      rw [HF.out]
      exact ⟨_, rfl, World.ownsRow_nil _ _ _ _, HB0.out⟩
    | some r =>
      obtain ⟨ix, hix, hz0, hz1, hz2⟩ := info_parts Try.uinfo
      have HF : Hid (D.read s = (0, r.f.b)) := Lib.hid (by unfold Dk.read; rw [if_neg (by rw [ha]; simp), h.get_some hp])
      have HP := Lib.hid (place_yes h0 hr hp)
      have hmem := (kfnd_mem hp).1
      have HRM : Hid (r.f.b.length ≤ 1073741824) := Lib.hid (by
        have h1 : r.f ∈ D.F := by rw [← h.eq]; exact List.mem_map_of_mem hmem
        have h2 : (r.f.b.length : Int) ≤ D.room := hi.one_le h1
        have := hi.room
        omega)
      obtain ⟨hk, he⟩ := kfnd_place (h.rise hr) hp
      obtain ⟨k, hkk⟩ : ∃ k, k = kpl Rf.key L s.data.toList := ⟨_, rfl⟩
      simp only [← hkk] at hk he HP
      have HBD := Lib.hid (h0.body r hmem)
      obtain ⟨q, c, rfl, hc, -, e1, -⟩ := h0.at hk
      rw [he] at e1
      have E1 := Lib.hid e1
      have hw1 := below_alloc (w.alloc (.cells #[.string s] 9)) (.cells #[] 5)
      have e1' := cell_kept e1 hw1
      have c1 := (h0.kept hw1).blk.cell (j := 1) rfl
      have HSR : Hid (Src Try.prog 1 29 r.v r.f.b.length (r.f.b.map B) ((w.alloc (.cells #[.string s] 9)).alloc (.cells #[] 5))) := Lib.hid (Row.src Try.underlying29 (Fresh.rd (own_keep HBD.out hw1)))
      have HOW : Hid (((w.alloc (.cells #[.string s] 9)).alloc (.cells #[] 5)).ownsRow w.heap.size 5 1 (.slice (some ⟨w.heap.size + 1, 0, none⟩) 0 0) 0 []) := Lib.hid (by have := own_mono (World.ownsRow_lit (e := 5) (size := 1) (w.alloc (.cells #[.string s] 9)) #[] 0 (Nat.le_refl _) (by simp [maxLen]) rfl) hb0.size; simpa using this)
      have HB1 := Lib.hid (below_and hb0 hw1)
      have b0 : (0 : Int) ≤ (k : Int) := by omega
      have i1 : (k : Int) < (L.length : Int) := by omega
      clear h h0 hs hr ha hp hb0 he hkk hi hmem hw1 e1
      go_enter Try.func56, Try.ntmps56
      go_wp2_with (first
        | (go_at_call 63; refine HA.out.mono ?_; rintro e w3 ⟨rfl, rfl⟩)
        | (go_at_call 64; refine HP.out.mono ?_; rintro e w3 ⟨rfl, rfl⟩)
        | (at_builtin; go_loud (refine wpList_app _ rfl _ _ 29 29 rfl w.heap.size 5 ix (.int .u8 0) 1 1 Try.underlying29 hix hz0 hz1 hz2 rfl _ 0 [] rfl HOW.out _ r.f.b.length (r.f.b.map B) rfl HSR.out (by have := HRM.out; unfold maxLen; omega) (by have := HRM.out; omega) HB1.out.size ?_); intro v' w' hown' hgrow _; have HN := Lib.hid hown'; have HB := Lib.hid (below_grown HB1.out HB1.out.size HOW.out hgrow); clear hown' hgrow))
      go_ret2
      rw [HF.out]
      exact ⟨_, rfl, by have := HN.out; unfold Fresh; simpa using this, HB.out⟩
  · have HA := Lib.hid (rasked_any g vF D L [s] _ _ h0 (row1r w s 9) (by simpa using hs))
    have HF : Hid (D.read s = (D.ask [s], [])) := Lib.hid (by unfold Dk.read; rw [if_pos ha])
    obtain ⟨q, hq⟩ : ∃ q, q = D.ask [s] := ⟨_, rfl⟩
    rw [← hq] at ha HF HA
    have q0 : (q != 0) = true := by simpa using ha
    clear h h0 hs hr ha hq hb0 hi
    go_enter Try.func56, Try.ntmps56
    go_wp2_with (go_at_call 63; refine HA.out.mono ?_; rintro e w3 ⟨rfl, rfl⟩)
    go_ret2
    rw [HF.out]
    exact ⟨_, rfl, World.ownsRow_nil _ _ _ _, HB0.out⟩
end
end Go.Proofs.Ytgcemddobcjpnaa
