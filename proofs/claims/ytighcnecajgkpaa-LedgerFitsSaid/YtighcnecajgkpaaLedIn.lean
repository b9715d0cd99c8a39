/- The ledger's In, Give. -/
import Derived.Test.YtighcnecajgkpaaLedEnt
namespace Go.Proofs.Ytighcnecajgkpaa
open Go.RowKit

theorem entsC_at : ∀ (L : List Ent) (k : Nat) (hk : k < L.length) (j : Nat), j < 6 → (entsC L)[k * 6 + j]? = (entC L[k])[j]?
  | [], k, hk, _, _ => absurd hk (Nat.not_lt_zero _)
  | e :: L, 0, _, j, hj => by
    show (entC e ++ entsC L)[0 * 6 + j]? = _
    rw [Nat.zero_mul, Nat.zero_add, List.getElem?_append_left (by simpa using hj)]
    rfl
  | e :: L, k + 1, hk, j, hj => by
    show (entC e ++ entsC L)[(k + 1) * 6 + j]? = _
    rw [List.getElem?_append_right (by simp; omega), show (k + 1) * 6 + j - (entC e).length = k * 6 + j by simp; omega]
    exact entsC_at L k (by simpa using hk) j hj

def inP (s : ByteArray) (x : Ent) : Bool := (x.i.toList == s.toList) && !s.toList.isEmpty
/-- the names of entries in one -/
def inL (s : ByteArray) (L : List Ent) : List Value := (L.filter fun x => inP s x).map fun x => .string x.n
theorem inL_yes {s : ByteArray} {L : List Ent} {x : Ent} {k : Nat} (hlt : k < L.length) (hx : x = L[k]) (h : inP s x = true) : inL s (L.take (k + 1)) = inL s (L.take k) ++ [.string x.n] := by
  unfold inL
  rw [List.take_succ_eq_append_getElem hlt, ← hx, List.filter_append, List.map_append, List.filter_cons_of_pos h]
  rfl
theorem inL_no {s : ByteArray} {L : List Ent} {x : Ent} {k : Nat} (hlt : k < L.length) (hx : x = L[k]) (h : inP s x = false) : inL s (L.take (k + 1)) = inL s (L.take k) := by
  unfold inL
  rw [List.take_succ_eq_append_getElem hlt, ← hx, List.filter_append, List.map_append, List.filter_cons_of_neg (by simp [h])]
  simp
theorem inL_len (s : ByteArray) (L : List Ent) : (inL s L).length ≤ L.length := by
  unfold inL
  rw [List.length_map]
  exact List.length_filter_le _ _

set_option maxRecDepth 100000 in
set_option maxHeartbeats 2000000 in
theorem in_made (b mb : Nat) (cap : Am) (L : List Ent) (s : ByteArray) (w : World) (h : Led w b mb cap L) (hr : Rise L) (hk : ∀ e ∈ L, e.n.size ≤ maxLen) (hl : L.length ≤ 100000) :
    Calls Try.prog 20 #[ptr b, .string s] w fun e w' => ∃ v, e = .returned v ∧ w'.ownsRow w.heap.size 9 1 v (inL s L).length (inL s L) ∧ Below w.heap.size w w' := by
  obtain ⟨i0, hi, hz0, hz1, hz2⟩ := info_parts (show (Try.prog.info? 9).map (fun i => (i.zero, i.size, i.bytes)) = some (some (.string ⟨#[]⟩), 1, 16) by kernel_rfl)
  have HE := Lib.hid (entries_made b mb cap L w h hr hk hl)
  have HL := Lib.hid hl
  have hml : maxLen ≤ 9223372036854775807 := by decide
  clear h hr hk
  go_enter Try.func20, Try.ntmps20
  go_wp2_with (go_at_call 24; refine HE.out.mono ?_; rintro e w3 ⟨v3, rfl, ho3, hb3⟩; obtain ⟨p3, k3, rfl, hk3, hm3⟩ := own_slice ho3; have HO3 := Lib.hid ho3; have HB3 := Lib.hid hb3; clear ho3 hb3)
  go_loopw [5, 11] (fun o i wr => ∃ k : Nat, k ≤ L.length ∧ i = .int .i64 (k : Int) ∧ Hid (wr.ownsRow w.heap.size 9 1 o (inL s (L.take k)).length (inL s (L.take k)) ∧ ∀ x, o.ownBlock = some x → w3.heap.size ≤ x) ∧ Hid (Below w3.heap.size w3 wr)) (fun _ i _ => L.length - (intOf i).toNat)
  case atStart => exact ⟨0, Nat.zero_le _, rfl, Lib.hid ⟨World.ownsRow_nil _ _ _ _, fun x h => by simp [Value.ownBlock] at h⟩, Lib.hid (Below.refl _ _)⟩
  case round =>
    obtain ⟨k, hk, rfl, HO, HB⟩ := hrel
    by_cases hlt : k < L.length
    · obtain ⟨g3, cap3, e3, -, -, -⟩ := own_block HO3.out (by omega)
      simp only [Value.slice.injEq] at e3
      obtain ⟨rfl, -, rfl⟩ := e3
      obtain ⟨x, hx⟩ : ∃ x, x = L[k] := ⟨_, rfl⟩
      have hcs : ∀ j u, j < 6 → (entC x)[j]? = some u → wr.cell? ⟨g3, k * 6 + j, none⟩ = some u := fun j u hj hu => cell_kept (own_cell HO3.out (by rw [entsC_at L k hlt j hj, ← hx]; exact hu)) HB.out
      have c0 : wr.cell? ⟨g3, k * 6, none⟩ = some (.string x.n) := hcs 0 _ (by omega) rfl
      have c1 := hcs 1 _ (by omega) rfl
      have c2 := hcs 2 _ (by omega) rfl
      have c3 := hcs 3 _ (by omega) rfl
      have c4 := hcs 4 _ (by omega) rfl
      have c5 := hcs 5 _ (by omega) rfl
      have i1 : (k : Int) < (L.length : Int) := by omega
      clear hcs
      have HHX : Hid (x = L[k]) := Lib.hid hx
      clear hx
      have HWZ : Hid (w.heap.size ≤ wr.heap.size) := Lib.hid (by have h1 := HB3.out.size; have h2 := HB.out.size; omega)
      go_upto_region 5 with fail
      obtain ⟨w5, hw5⟩ : ∃ w5, w5 = wr.alloc (.cells #[.string x.n, .string x.i, .int .i64 x.a.c, .int .i64 x.a.r, .int .i64 x.a.d, .int .i64 x.a.p] 48) := ⟨_, rfl⟩
      obtain ⟨X, hX⟩ : ∃ X, X = wr.heap.size := ⟨_, rfl⟩
      have hb5 : Below wr.heap.size wr w5 := by rw [hw5]; exact below_alloc _ _
      have hE5 : Blk w5 X (entC x) 48 := by rw [hw5, hX]; exact Blk.made wr (entC x) _
      have x0 := hE5.cell (j := 0) rfl
      have x1 := hE5.cell (j := 1) rfl
      have HB5 : Hid (Below w3.heap.size w3 w5) := Lib.hid (HB.out.trans (hb5.mono HB.out.size))
      have HO5 : Hid (w5.ownsRow w.heap.size 9 1 u5 (inL s (L.take k)).length (inL s (L.take k))) := Lib.hid (own_fr HO.out.1 (Fr.of_below hb5 []) (fun _ _ => by simp))
      have HW5 : Hid (w.heap.size ≤ w5.heap.size) := Lib.hid (by have h1 := HWZ.out; have h2 := hb5.size; omega)
      rw [← hw5, ← hX]
      clear hw5 hX hb5 hE5
      cases hq : (x.i.toList == s.toList)
      · have HY : Hid (inL s (L.take (k + 1)) = inL s (L.take k)) := Lib.hid (inL_no hlt HHX.out (by unfold inP; simp [hq]))
        go_wp2
        go_roundw
        case rel => exact ⟨k + 1, hlt, by go_num, Lib.hid ⟨by rw [HY.out]; exact HO5.out, HO.out.2⟩, HB5⟩
        case measure => simp [intOf]; omega
      cases he : s.toList.isEmpty
      · have HY : Hid (inL s (L.take (k + 1)) = inL s (L.take k) ++ [.string x.n]) := Lib.hid (inL_yes hlt HHX.out (by unfold inP; rw [hq, he]; rfl))
        have HLE : Hid ((inL s (L.take k)).length ≤ k) := Lib.hid (Nat.le_trans (inL_len _ _) (by simp; omega))
        go_wp2_with (at_builtin; go_loud (refine wpList_app5 rfl _ _ 45 45 rfl w.heap.size 9 i0 (.string ⟨#[]⟩) 1 16 Try.underlying45 hi hz0 hz1 hz2 rfl _ (inL s (L.take k)).length (inL s (L.take k)) rfl (own_fr HO5.out (Fr.of_below (below_alloc w5 (.cells #[.string x.n] 9)) []) (fun _ _ => by simp)) _ 1 _ rfl (src_block Try.underlying45 _ _ #[_] (heap_alloc_new w5 _) rfl (by simp [Value.oneCell'])) (by have := HL.out; have := HLE.out; unfold maxLen; omega) (by have := HL.out; have := HLE.out; omega) (by have := HW5.out; simp; omega) ?_; intro o4 w4 ho4 hg4 hn4; have HO4 := Lib.hid ho4; have HN4 : Hid (∀ x, o4.ownBlock = some x → w3.heap.size ≤ x) := Lib.hid (fun y hy => by rcases hn4 y hy with h1 | h1; exact HO.out.2 y h1; have := HB5.out.size; simp at h1; omega); have HB4 : Hid (Below w3.heap.size w3 w4) := Lib.hid ((below_and HB5.out (below_alloc w5 _)).trans ((Fr.of_grown hg4).below (by intro y hy; exact HO.out.2 y (Option.mem_toList.1 hy)) (by have := HB5.out.size; simp; omega))); clear ho4 hg4 hn4))
        go_roundw
        case rel => exact ⟨k + 1, hlt, by go_num, Lib.hid ⟨by rw [HY.out, List.length_append]; exact HO4.out, HN4.out⟩, HB4⟩
        case measure => simp [intOf]; omega
      · have HY : Hid (inL s (L.take (k + 1)) = inL s (L.take k)) := Lib.hid (inL_no hlt HHX.out (by unfold inP; simp [he]))
        go_wp2
        go_roundw
        case rel => exact ⟨k + 1, hlt, by go_num, Lib.hid ⟨by rw [HY.out]; exact HO5.out, HO.out.2⟩, HB5⟩
        case measure => simp [intOf]; omega
    · obtain rfl : k = L.length := by omega
      have HE := HO.out.1
      rw [List.take_length] at HE
      have HEE := Lib.hid HE
      clear HE
      go_wp2
      go_ret
      exact ⟨_, rfl, HEE.out, below_and HB3.out HB.out⟩
end Go.Proofs.Ytighcnecajgkpaa
