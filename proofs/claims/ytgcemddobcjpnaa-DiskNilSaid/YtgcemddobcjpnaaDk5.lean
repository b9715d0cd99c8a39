/- The program's disk: New, On, Steps, Left, Synced, Read, Names, Fuse, Free. -/
import Derived.Test.YtgcemddobcjpnaaDk4
import Derived.Test.YtgcemddobcjpnaaIter
import Derived.Test.YtgcemddobcjpnaaClone
namespace Go.Proofs.Ytgcemddobcjpnaa
open Go.RowKit

/-- what a call leaves -/
def DkTo (w w' : World) (b mb : Nat) (L : List Pf) (D' : Dk) : Prop := ∃ L', PDk w' b mb D' L' ∧ DSt w w' b mb L L'
theorem DkTo.same {w w' : World} {b mb : Nat} {L : List Pf} {D : Dk} (h : PDk w b mb D L) (hb : Below w.heap.size w w') : DkTo w w' b mb L D := ⟨L, h.kept hb, DSt.of_below hb⟩

/-! New -/
set_option maxRecDepth 100000 in
set_option maxHeartbeats 1000000 in
theorem new_ok (r : Int) (w : World) (h1 : 0 ≤ r) (h2 : r ≤ 1073741824) :
    Calls Try.prog 9 #[.int .i64 r] w fun e w' => ∃ b mb, e = .returned (.tuple #[ptr b, .int .i64 0]) ∧ w.heap.size ≤ b ∧ w.heap.size ≤ mb ∧ PDk w' b mb ⟨r, [], false, 0, false, 0⟩ [] ∧ Below w.heap.size w w' := by
  have d1 : decide (r < 0) = false := by simp; omega
  have d2 : decide (1073741824 < r) = false := by simp; omega
  have hmm := @run_makeMap Try.prog
  clear h1 h2
  go_enter Try.func9, Try.ntmps9
  go_wp2
  go_ret2
  refine ⟨w.heap.size + 1, w.heap.size, rfl, by omega, Nat.le_refl _, ⟨by simpa [dkC] using Blk.made (w.alloc (.map #[] 0)) (dkC w.heap.size ⟨r, [], false, 0, false, 0⟩) 54, (smap_made w _ _).kept (below_alloc _ _), rfl, by simp, by simp, List.Pairwise.nil⟩, below_and (below_alloc w _) (below_alloc _ _)⟩
set_option maxRecDepth 100000 in
set_option maxHeartbeats 1000000 in
theorem new_bad (r : Int) (w : World) (h : r < 0 ∨ 1073741824 < r) :
    Calls Try.prog 9 #[.int .i64 r] w fun e w' => e = .returned (.tuple #[.pointer none, .int .i64 2]) ∧ w = w' := by
  by_cases h0 : r < 0
  · have d1 : decide (r < 0) = true := by simp; omega
    clear h h0
    go_enter Try.func9, Try.ntmps9
    go_wp2
    go_ret2
    exact ⟨rfl, rfl⟩
  · have d1 : decide (r < 0) = false := by simp; omega
    have d2 : decide (1073741824 < r) = true := by simp; omega
    clear h h0
    go_enter Try.func9, Try.ntmps9
    go_wp2
    go_ret2
    exact ⟨rfl, rfl⟩

section
variable (b mb : Nat) (D : Dk) (L : List Pf) (w : World) (h : PDk w b mb D L)
include h
set_option maxRecDepth 100000 in
set_option maxHeartbeats 1000000 in
theorem on_any : Calls Try.prog 17 #[ptr b] w fun e w' => e = .returned (.bool (!D.off)) ∧ w = w' := by
  have H := Lib.hid h
  have c4 := h.blk.cell (j := 4) rfl
  clear h
  go_enter Try.func17, Try.ntmps17
  go_wp2_with (go_at_call 40; refine (none_made b mb D L _ H.out).mono ?_; rintro e w' ⟨rfl, rfl⟩)
  go_ret
  exact ⟨rfl, rfl⟩
set_option maxRecDepth 100000 in
set_option maxHeartbeats 1000000 in
theorem steps_any : Calls Try.prog 28 #[ptr b] w fun e w' => e = .returned (.int .i64 D.steps) ∧ w = w' := by
  have H := Lib.hid h
  have c5 := h.blk.cell (j := 5) rfl
  clear h
  go_enter Try.func28, Try.ntmps28
  go_wp2_with (go_at_call 40; refine (none_made b mb D L _ H.out).mono ?_; rintro e w' ⟨rfl, rfl⟩)
  go_ret
  exact ⟨rfl, rfl⟩
set_option maxRecDepth 100000 in
set_option maxHeartbeats 1000000 in
theorem free_any : Calls Try.prog 27 #[ptr b] w fun e w' => e = .returned (.int .i64 0) ∧ DkTo w w' b mb L D.free := by
  have H := Lib.hid h
  have c2 := h.blk.cell (j := 2) rfl
  have c3 := (h.blk.set 2 (.bool false)).cell (j := 3) rfl
  have f2 := h.blk.free 2
  have f3 := (h.blk.set 2 (.bool false)).free 3
  clear h
  go_enter Try.func27, Try.ntmps27
  go_wp2_with (go_at_call 40; refine (none_made b mb D L _ H.out).mono ?_; rintro e w' ⟨rfl, rfl⟩)
  go_ret
  have hf : Frp (fun k => k = b) w ((w.setCell ⟨b, 2, none⟩ (.bool false)).setCell ⟨b, 3, none⟩ (.int .i64 0)) := ((Frp.refl (fun k => k = b) w).set (p := ⟨b, 2, none⟩) rfl _).set (p := ⟨b, 3, none⟩) rfl _
  exact ⟨rfl, L, H.out.flds (D' := D.free) rfl hf ((H.out.blk.set 2 _).set 3 _), ⟨hf.mono (fun k hk => .inl hk), fun k hk => .inl hk⟩⟩
theorem ask_nil : Calls Try.prog 33 #[ptr b, .slice none 0 0] w fun e w' => e = .returned (.int .i64 (if D.off = true then 10 else 0)) ∧ Below w.heap.size w w' := by
  have := asked_any b mb D L [] _ w h (row_nil w 1) (by simp)
  unfold Dk.ask at this
  simpa using this
set_option maxRecDepth 100000 in
set_option maxHeartbeats 1000000 in
theorem fuse_any (n : Int) : Calls Try.prog 16 #[ptr b, .int .i64 n] w fun e w' => e = .returned (.int .i64 (D.setFuse n).1) ∧ DkTo w w' b mb L (D.setFuse n).2 := by
  have H := Lib.hid h
  cases hoff : D.off
  · have HA : Hid (Calls Try.prog 33 #[ptr b, .slice none 0 0] w fun e w' => e = .returned (.int .i64 0) ∧ Below w.heap.size w w') := Lib.hid (by have := ask_nil b mb D L w h; rw [hoff] at this; exact this)
    by_cases hn : n < 0
    · have HF : Hid (D.setFuse n = (2, D)) := Lib.hid (by unfold Dk.setFuse; rw [if_neg (by rw [hoff]; simp), if_pos hn])
      clear h hoff
      go_enter Try.func16, Try.ntmps16
      go_wp2_with (go_at_call 33; refine HA.out.mono ?_; rintro e w3 ⟨rfl, hb⟩; have HB3 := Lib.hid hb; clear hb)
      go_ret
      rw [HF.out]
      exact ⟨rfl, DkTo.same H.out HB3.out⟩
    · have HF : Hid (D.setFuse n = (0, { D with fused := true, fuse := n })) := Lib.hid (by unfold Dk.setFuse; rw [if_neg (by rw [hoff]; simp), if_neg hn])
      clear h hoff
      go_enter Try.func16, Try.ntmps16
      go_wp2_with (go_at_call 33; refine HA.out.mono ?_; rintro e w3 ⟨rfl, hb⟩; have HB3 := Lib.hid hb; have H3 := Lib.hid (H.out.kept hb); have c2 := H3.out.blk.cell (j := 2) rfl; have c3 := (H3.out.blk.set 2 (.bool true)).cell (j := 3) rfl; have f2 := H3.out.blk.free 2; have f3 := (H3.out.blk.set 2 (.bool true)).free 3; clear hb)
      go_ret
      rw [HF.out]
      have hf : Frp (fun k => k = b) w3 ((w3.setCell ⟨b, 2, none⟩ (.bool true)).setCell ⟨b, 3, none⟩ (.int .i64 n)) := ((Frp.refl (fun k => k = b) w3).set (p := ⟨b, 2, none⟩) rfl _).set (p := ⟨b, 3, none⟩) rfl _
      exact ⟨rfl, L, H3.out.flds (D' := { D with fused := true, fuse := n }) rfl hf ((H3.out.blk.set 2 _).set 3 _), (⟨hf.mono (fun k hk => .inl hk), fun k hk => .inl hk⟩ : DSt w3 _ b mb L L).box HB3.out⟩
  · have HA : Hid (Calls Try.prog 33 #[ptr b, .slice none 0 0] w fun e w' => e = .returned (.int .i64 10) ∧ Below w.heap.size w w') := Lib.hid (by have := ask_nil b mb D L w h; rw [hoff] at this; exact this)
    have HF : Hid (D.setFuse n = (10, D)) := Lib.hid (by unfold Dk.setFuse; rw [if_pos hoff])
    clear h hoff
    go_enter Try.func16, Try.ntmps16
    go_wp2_with (go_at_call 33; refine HA.out.mono ?_; rintro e w3 ⟨rfl, hb⟩; have HB3 := Lib.hid hb; clear hb)
    go_ret
    rw [HF.out]
    exact ⟨rfl, DkTo.same H.out HB3.out⟩
set_option maxRecDepth 100000 in
set_option maxHeartbeats 1000000 in
theorem leftP_any (M : Nat) (N : Int) (hi : DkI D M N) : Calls Try.prog 18 #[ptr b] w fun e w' => e = .returned (.int .i64 D.leftP) ∧ Below w.heap.size w w' := by
  have H := Lib.hid h
  have HI := Lib.hid hi
  cases hoff : D.off
  · have HA : Hid (Calls Try.prog 33 #[ptr b, .slice none 0 0] w fun e w' => e = .returned (.int .i64 0) ∧ Below w.heap.size w w') := Lib.hid (by have := ask_nil b mb D L w h; rw [hoff] at this; exact this)
    have HF : Hid (D.leftP = D.left) := Lib.hid (by unfold Dk.leftP; rw [if_neg (by rw [hoff]; simp)])
    clear h hoff hi
    go_enter Try.func18, Try.ntmps18
    go_wp2_with (first
      | (go_at_call 33; refine HA.out.mono ?_; rintro e w3 ⟨rfl, hb⟩; have HB3 := Lib.hid hb; have H3 := Lib.hid (H.out.kept hb); clear hb)
      | (go_at_call 37; refine (left_any b mb D L M N _ H3.out HI.out).mono ?_; rintro e w4 ⟨rfl, hb⟩; have HB4 := Lib.hid (below_and HB3.out hb); clear hb))
    go_ret
    rw [HF.out]
    exact ⟨rfl, HB4.out⟩
  · have HA : Hid (Calls Try.prog 33 #[ptr b, .slice none 0 0] w fun e w' => e = .returned (.int .i64 10) ∧ Below w.heap.size w w') := Lib.hid (by have := ask_nil b mb D L w h; rw [hoff] at this; exact this)
    have HF : Hid (D.leftP = 0) := Lib.hid (by unfold Dk.leftP; rw [if_pos hoff])
    clear h hoff hi
    go_enter Try.func18, Try.ntmps18
    go_wp2_with (go_at_call 33; refine HA.out.mono ?_; rintro e w3 ⟨rfl, hb⟩; have HB3 := Lib.hid hb; clear hb)
    go_ret
    rw [HF.out]
    exact ⟨rfl, HB3.out⟩

/-- the names, rising, in memory of the call's own -/
theorem names_sorted (hr : KRise Fl.key D.F) (hl : D.F.length ≤ 100000) :
    Calls Try.prog 41 #[.func (.func 62) #[] #[.pointer (some ⟨w.heap.size, 0, none⟩)]] (w.alloc (.cells #[.map (some mb)] 52)) fun e w' => ∃ v, e = .returned v ∧
      w'.ownsRow (w.heap.size + 1) 9 1 v D.F.length (D.F.map fun f => .string f.n) ∧ Below (w.heap.size + 1) (w.alloc (.cells #[.map (some mb)] 52)) w' := by
  have hsz : Go.Maps.size (kM Pf.key Pf.val L).dat = D.F.length := by rw [kM_size, h.len]
  refine (callsIn_wide.1 (Try.slices_Sorted_keys_41_42 mb (kM Pf.key Pf.val L).length (kM Pf.key Pf.val L).dat anyElem w h.map (by rw [hsz]; unfold maxLen; omega) (by rw [hsz]; omega))).mono ?_
  rintro e w' ⟨v, ss, he, hp, hown, -, hb⟩
  rw [kM_keys] at hp
  have hk : L.map Pf.key = D.F.map Fl.key := by rw [← h.eq, List.map_map]; rfl
  rw [hk] at hp
  have hlen := hp.length_eq
  simp only [List.length_map] at hlen
  have hso : ss.mergeSort (fun x y => decide (x ≤ y)) = D.F.map Fl.key := sort_rises hp hr.keys
  have hmap : (D.F.map Fl.key).map Go.Proofs.encStr = D.F.map fun f => Value.string f.n := by
    rw [List.map_map]
    rfl
  rw [hso, hlen, hmap] at hown
  exact ⟨v, he, by simpa using hown, by simpa using hb⟩
set_option maxRecDepth 100000 in
set_option maxHeartbeats 1000000 in
theorem names_any (hr : KRise Fl.key D.F) (hl : D.F.length ≤ 100000) :
    Calls Try.prog 21 #[ptr b] w fun e w' => ∃ v, e = .returned v ∧ w'.ownsRow w.heap.size 9 1 v D.names.length (D.names.map Value.string) ∧ Below w.heap.size w w' := by
  have H := Lib.hid h
  cases hoff : D.off
  · have HA : Hid (Calls Try.prog 33 #[ptr b, .slice none 0 0] w fun e w' => e = .returned (.int .i64 0) ∧ Below w.heap.size w w') := Lib.hid (by have := ask_nil b mb D L w h; rw [hoff] at this; exact this)
    have HF : Hid (D.names = D.F.map Fl.n) := Lib.hid (by unfold Dk.names; rw [if_neg (by rw [hoff]; simp)])
    have HR := Lib.hid hr
    have HL := Lib.hid hl
    clear h hoff hr hl
    go_enter Try.func21, Try.ntmps21
    go_wp2_with (first
      | (go_at_call 33; refine HA.out.mono ?_; rintro e w3 ⟨rfl, hb⟩; have HB3 := Lib.hid hb; have H3 := Lib.hid (H.out.kept hb); have c0 := H3.out.blk.cell (j := 0) rfl; have HKE := Lib.hid (callsIn_wide.1 (Try.maps_Keys_42 (some mb) w3)); have HSO := Lib.hid (names_sorted b mb D L w3 H3.out HR.out HL.out); clear hb)
      | (go_at_call 42; refine HKE.out.mono ?_; rintro e w' ⟨rfl, rfl⟩)
      | (go_at_call 41; refine HSO.out.mono ?_; rintro e w4 ⟨v4, rfl, ho4, hb4⟩; have HO4 := Lib.hid ho4; have HB4 : Hid (Below w.heap.size w w4) := Lib.hid (below_and HB3.out ((below_alloc w3 _).trans (hb4.mono (by omega)))); clear ho4 hb4))
    go_ret
    refine ⟨_, rfl, ?_, HB4.out⟩
    rw [HF.out, List.length_map, List.map_map]
    have := HB3.out.size
    exact own_mono HO4.out (by omega)
  · have HA : Hid (Calls Try.prog 33 #[ptr b, .slice none 0 0] w fun e w' => e = .returned (.int .i64 10) ∧ Below w.heap.size w w') := Lib.hid (by have := ask_nil b mb D L w h; rw [hoff] at this; exact this)
    have HF : Hid (D.names = []) := Lib.hid (by unfold Dk.names; rw [if_pos hoff])
    clear h hoff hr hl
    go_enter Try.func21, Try.ntmps21
    go_wp2_with (go_at_call 33; refine HA.out.mono ?_; rintro e w3 ⟨rfl, hb⟩; have HB3 := Lib.hid hb; clear hb)
    go_ret
    rw [HF.out]
    exact ⟨_, rfl, World.ownsRow_nil _ _ _ _, HB3.out⟩

/-! with a name: Synced, Read -/
variable (s : ByteArray) (hs : s.size ≤ maxLen)
include hs
set_option maxRecDepth 100000 in
set_option maxHeartbeats 1000000 in
theorem synced_any : Calls Try.prog 15 #[ptr b, .string s] w fun e w' => e = .returned (.tuple #[.int .i64 (D.synced s).2, .int .i64 (D.synced s).1]) ∧ Below w.heap.size w w' := by
  have H := Lib.hid h
  by_cases ha : D.ask [s] = 0
  · cases hp : kfnd Pf.key L s.data.toList with
    | none =>
      have hg : D.get s = none := by unfold Dk.get; rw [h.find, hp]; rfl
      have HF : Hid (D.synced s = (6, 0)) := Lib.hid (by unfold Dk.synced; rw [if_neg (by rw [ha]; simp), hg])
      have HFI := Lib.hid (find_no b mb D L s w h hs ha hp)
      clear h hs ha hp hg
      go_enter Try.func15, Try.ntmps15
      go_wp2_with (go_at_call 36; refine HFI.out.mono ?_; rintro e w3 ⟨rfl, hb⟩; have HB3 := Lib.hid hb; clear hb)
      go_ret2
      rw [HF.out]
      exact ⟨rfl, HB3.out⟩
    | some p =>
      have hg : D.get s = some p.f := by unfold Dk.get; rw [h.find, hp]; rfl
      have HF : Hid (D.synced s = (0, (p.f.s : Int))) := Lib.hid (by unfold Dk.synced; rw [if_neg (by rw [ha]; simp), hg])
      have HFI := Lib.hid (find_yes b mb D L s w h hs ha p hp)
      have HM := Lib.hid (kfnd_mem hp).1
      clear h hs ha hp hg
      go_enter Try.func15, Try.ntmps15
      go_wp2_with (go_at_call 36; refine HFI.out.mono ?_; rintro e w3 ⟨rfl, hb⟩; have HB3 := Lib.hid hb; have c1 := ((H.out.kept hb).file p HM.out).cell (j := 1) rfl; clear hb)
      go_ret2
      rw [HF.out]
      exact ⟨rfl, HB3.out⟩
  · have HF : Hid (D.synced s = (D.ask [s], 0)) := Lib.hid (by unfold Dk.synced; rw [if_pos ha])
    have HFI := Lib.hid (find_bad b mb D L s w h hs ha)
    obtain ⟨q, hq⟩ : ∃ q, q = D.ask [s] := ⟨_, rfl⟩
    rw [← hq] at ha HF HFI
    have q0 : (q != 0) = true := by simpa using ha
    clear h hs ha hq
    go_enter Try.func15, Try.ntmps15
    go_wp2_with (go_at_call 36; refine HFI.out.mono ?_; rintro e w3 ⟨rfl, hb⟩; have HB3 := Lib.hid hb; clear hb)
    go_ret2
    rw [HF.out]
    exact ⟨rfl, HB3.out⟩
set_option maxRecDepth 100000 in
set_option maxHeartbeats 1000000 in
theorem read_any (M : Nat) (N : Int) (hi : DkI D M N) : Calls Try.prog 14 #[ptr b, .string s] w fun e w' => ∃ v, e = .returned (.tuple #[v, .int .i64 (D.read s).1]) ∧ Fresh w.heap.size w' v (D.read s).2 ∧ Below w.heap.size w w' := by
  have H := Lib.hid h
  by_cases ha : D.ask [s] = 0
  · cases hp : kfnd Pf.key L s.data.toList with
    | none =>
      have hg : D.get s = none := by unfold Dk.get; rw [h.find, hp]; rfl
      have HF : Hid (D.read s = (6, [])) := Lib.hid (by unfold Dk.read; rw [if_neg (by rw [ha]; simp), hg])
      have HFI := Lib.hid (find_no b mb D L s w h hs ha hp)
      clear h hs ha hp hg hi
      go_enter Try.func14, Try.ntmps14
      go_wp2_with (go_at_call 36; refine HFI.out.mono ?_; rintro e w3 ⟨rfl, hb⟩; have HB3 := Lib.hid hb; clear hb)
      go_ret2
      rw [HF.out]
      exact ⟨_, rfl, World.ownsRow_nil _ _ _ _, HB3.out⟩
    | some p =>
      have hg : D.get s = some p.f := by unfold Dk.get; rw [h.find, hp]; rfl
      have HF : Hid (D.read s = (0, p.f.b)) := Lib.hid (by unfold Dk.read; rw [if_neg (by rw [ha]; simp), hg])
      have HFI := Lib.hid (find_yes b mb D L s w h hs ha p hp)
      have hmem := (kfnd_mem hp).1
      have HM := Lib.hid hmem
      have HRM : Hid (Room p.f.b.length) := Lib.hid (by
        have h1 : p.f ∈ D.F := by rw [← h.eq]; exact List.mem_map_of_mem hmem
        have h2 := ksum_mem (f := lenF) (L := D.F) (fun e _ => by unfold lenF; omega) h1
        have h3 := hi.fits
        have h4 := hi.room
        rw [bytes_sum] at h3
        have h5 : (p.f.b.length : Int) ≤ ksum lenF D.F := h2
        unfold Room
        omega)
      clear h hs ha hp hg hmem hi
      go_enter Try.func14, Try.ntmps14
      go_wp2_with (first
        | (go_at_call 36; refine HFI.out.mono ?_; rintro e w3 ⟨rfl, hb⟩; have HB3 := Lib.hid hb; have H3 := Lib.hid (H.out.kept hb); have c0 := (H3.out.file p HM.out).cell (j := 0) rfl; clear hb)
        | (go_at_call 43; refine (clone_any p.v p.f.b _ (H3.out.body p HM.out).rd HRM.out).mono ?_; rintro e w4 ⟨v4, rfl, hf, hb⟩; have HB4 := Lib.hid (below_and HB3.out hb); have HF4 := Lib.hid hf; clear hb hf))
      go_ret2
      rw [HF.out]
      have := HB3.out.size
      exact ⟨_, rfl, HF4.out.mono this, HB4.out⟩
  · have HF : Hid (D.read s = (D.ask [s], [])) := Lib.hid (by unfold Dk.read; rw [if_pos ha])
    have HFI := Lib.hid (find_bad b mb D L s w h hs ha)
    obtain ⟨q, hq⟩ : ∃ q, q = D.ask [s] := ⟨_, rfl⟩
    rw [← hq] at ha HF HFI
    have q0 : (q != 0) = true := by simpa using ha
    clear h hs ha hq hi
    go_enter Try.func14, Try.ntmps14
    go_wp2_with (go_at_call 36; refine HFI.out.mono ?_; rintro e w3 ⟨rfl, hb⟩; have HB3 := Lib.hid hb; clear hb)
    go_ret2
    rw [HF.out]
    exact ⟨_, rfl, World.ownsRow_nil _ _ _ _, HB3.out⟩
end
end Go.Proofs.Ytgcemddobcjpnaa
