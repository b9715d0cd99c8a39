/- The program's table of leases: Names, Over. -/
import Derived.Test.YtmgcigohfccgeaaLsIter
import Derived.Test.YtmgcigohfccgeaaLsProg
import Derived.Test.YtmgcigohfccgeaaWNm
import Derived.Test.YtmgcigohfccgeaaDelF
namespace Go.Proofs.Ytmgcigohfccgeaa
open Go.RowKit

theorem enc_ofS (ss : List (List UInt8)) : ss.map Go.Proofs.encStr = (ss.map fun l => (⟨l.toArray⟩ : ByteArray)).map Value.string := by
  rw [List.map_map]
  rfl
theorem bsort_rises {ss : List (List UInt8)} {L : List Hr} (hp : ss.Perm (L.map Hr.key)) (hr : HRise L) : bsort (ss.map fun l => ⟨l.toArray⟩) = L.map (·.n) := by
  unfold bsort
  rw [show (ss.map fun l => (⟨l.toArray⟩ : ByteArray)).map (fun b => b.data.toList) = ss from by rw [List.map_map]; exact (List.map_congr_left fun l _ => by simp).trans (List.map_id ss)]
  rw [sort_rises hp hr.keys, List.map_map]
  exact List.map_congr_left fun x _ => by simp [Hr.key]

set_option maxRecDepth 100000 in
set_option maxHeartbeats 1000000 in
theorem lsnames_all (k b mb : Nat) (n : Int) (x : Ls) (w : World) (h : LsT w b mb n x) (hI : LsI k x) (hk : k ≤ 100000) :
    Calls Try.prog 45 #[ptr b] w fun e w' => ∃ v, e = .returned v ∧ w'.ownsRow w.heap.size 9 1 v x.R.length (strV (lsNames x)) ∧ Below w.heap.size w w' := by
  have hsz := hrM_size x.R
  have hll := hI.len
  have H := Lib.hid h
  have H0 := Lib.hid hI.w0
  have c3 := h.blk.cell (j := 3) rfl
  have HKE := Lib.hid (Try.keys_made (some mb) w)
  have HCO := Lib.hid (Try.collect_keys mb (hrM x.R).length (hrM x.R).dat anyElem w h.map (by rw [hsz]; unfold maxLen; omega) (by rw [hsz]; omega))
  have HR := Lib.hid hI.rise
  have HLL := Lib.hid (show x.R.length ≤ 100000 by omega)
  clear h hI hsz hll hk
  go_enter Try.func45, Try.ntmps45
  go_wp2_with (first
    | (go_at_call 57; refine (lnone_made b mb _ _ _ _ _ (by exact H.out) H0.out).mono ?_; rintro e w' ⟨rfl, rfl⟩)
    | (go_at_call 73; refine HKE.out.mono ?_; rintro e w' ⟨rfl, rfl⟩)
    | (go_at_call 72; refine HCO.out.mono ?_; rintro e w3 ⟨v3, ss, rfl, hp3, ho3, -, hb3⟩; have HP3 := Lib.hid hp3; have HO3 : Hid (w3.ownsRow w.heap.size 9 1 v3 (ss.map fun l => (⟨l.toArray⟩ : ByteArray)).length ((ss.map fun l => (⟨l.toArray⟩ : ByteArray)).map Value.string)) := Lib.hid (by rw [enc_ofS] at ho3; simpa using own_mono ho3 (by simp)); have HB3 : Hid (Below w.heap.size w w3) := Lib.hid ((below_alloc w _).trans (hb3.mono (by simp))); clear hp3 ho3 hb3)
    | (go_at_call 74; refine (sort_own (ss.map fun l => (⟨l.toArray⟩ : ByteArray)) _ HO3.out (by have h1 := HP3.out.length_eq; rw [strKeys_hr] at h1; have h2 := HLL.out; simp at h1 ⊢; omega)).mono ?_; rintro e w4 ⟨rfl, ho4, hg4⟩; have HO4 := Lib.hid ho4; have HG4 : Hid (World.grownBy w3 w4 v3.ownBlock) := Lib.hid hg4; clear ho4 hg4))
  go_ret
  have h1 := HP3.out
  rw [strKeys_hr] at h1
  have h2 := h1.length_eq
  have h3 := HO4.out
  rw [bsort_rises h1 HR.out] at h3
  refine ⟨_, rfl, ?_, HB3.out.trans ((Fr.of_grown HG4.out).below (fun q hq => own_lo HO3.out (Option.mem_toList.1 hq)) HB3.out.size)⟩
  simpa [h2, strV, lsNames, List.map_map] using h3
end Go.Proofs.Ytmgcigohfccgeaa
