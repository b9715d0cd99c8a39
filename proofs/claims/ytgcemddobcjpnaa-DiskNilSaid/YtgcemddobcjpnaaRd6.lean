/- The document's disk: Turn (written by genrd6.py). -/
import Derived.Test.YtgcemddobcjpnaaRd5
import Derived.Test.YtgcemddobcjpnaaDk10
namespace Go.Proofs.Ytgcemddobcjpnaa
open Go.RowKit

section
variable (g : Nat) (vF : Value) (D : Dk) (L : List Rf) (M : Nat) (N : Int) (s : ByteArray) (x : Int) (c0 : UInt8) (w : World) (h : RDk w g vF D L) (hi : DkI D M N) (hs : s.size ≤ maxLen)
include h hi hs
set_option maxRecDepth 100000 in
set_option maxHeartbeats 4000000 in
theorem rturn_any : Calls Try.prog 54 #[ptr g, .string s, .int .i64 x, .int .u8 (c0.toNat : Int)] w fun e w' => e = .returned (.int .i64 (D.turn s x c0).1) ∧ RdTo w w' g vF L (D.turn s x c0).2 := by
  have H := Lib.hid h
  have hr := hi.rise
  have HB0 : Hid (Below w.heap.size w w) := Lib.hid (Below.refl _ _)
  cases hn : nameB s
  · have HF : Hid (D.turn s x c0 = (2, D)) := Lib.hid (by unfold Dk.turn; rw [if_neg (by rw [hn]; simp)])
    have HNM : Hid (∀ w : World, Calls Try.prog 69 #[.string s] w fun e w' => e = .returned (.bool false) ∧ w = w') := Lib.hid (fun w => by have := rname_any s w hs; rwa [hn] at this)
    clear h hi hs hn hr
    go_enter Try.func54, Try.ntmps54
    go_wp2_with (go_at_call 69; refine (HNM.out _).mono ?_; rintro e w3 ⟨rfl, rfl⟩)
    go_ret
    rw [HF.out]
    exact ⟨rfl, RdTo.same H.out HB0.out⟩
  · have HNM : Hid (∀ w : World, Calls Try.prog 69 #[.string s] w fun e w' => e = .returned (.bool true) ∧ w = w') := Lib.hid (fun w => by have := rname_any s w hs; rwa [hn] at this)
    cases hp : kfnd Rf.key L s.data.toList with
    | none =>
      have HF : Hid (D.turn s x c0 = (6, D)) := Lib.hid (turn_none hn (h.get_none hp))
      have HP := Lib.hid (place_no h hr hp)
      clear h hi hs hn hr hp
      go_enter Try.func54, Try.ntmps54
      go_wp2_with (first
        | (go_at_call 69; refine (HNM.out _).mono ?_; rintro e w3 ⟨rfl, rfl⟩)
        | (go_at_call 64; refine HP.out.mono ?_; rintro e w3 ⟨rfl, rfl⟩))
      go_ret
      rw [HF.out]
      exact ⟨rfl, RdTo.same H.out HB0.out⟩
    | some r =>
      have HP := Lib.hid (place_yes h hr hp)
      obtain ⟨hk, he⟩ := kfnd_place (h.rise hr) hp
      obtain ⟨k, hkk⟩ : ∃ k, k = kpl Rf.key L s.data.toList := ⟨_, rfl⟩
      simp only [← hkk] at hk he HP
      have hmem := (kfnd_mem hp).1
      have HM := Lib.hid hmem
      obtain ⟨pv, pc, hv, hpc, -⟩ := own_slice (h.body r hmem)
      have HV := Lib.hid hv
      obtain ⟨q, c, hvF, hc, -, -, -⟩ := h.at hk
      have HVF := Lib.hid hvF
      have HFC : Hid (∀ w6, RDk w6 g vF D L → w6.cell? ⟨g, 1, none⟩ = some (.slice (some ⟨q, 0, none⟩) L.length c) ∧ w6.cell? ⟨q, k * 3 + 1, none⟩ = some (.slice pv r.f.b.length pc) ∧ w6.frozen? ⟨q, k * 3 + 1, none⟩ = false) := Lib.hid (fun w6 h6 => by
        obtain ⟨q2, c2, e, -, -, e1, -⟩ := h6.at hk
        have h7 := h6.row
        rw [hvF] at e h7
        simp only [Value.slice.injEq, Option.some.injEq, Addr.mk.injEq, and_true, true_and] at e
        obtain ⟨rfl, rfl⟩ := e
        rw [he] at e1
        exact ⟨by rw [← hvF]; exact h6.blk.cell (j := 1) rfl, by rw [← hv]; exact e1, own_free h7 _⟩)
      have b0 : (0 : Int) ≤ (k : Int) := by omega
      have i1 : (k : Int) < (L.length : Int) := by omega
      obtain ⟨x0, x1, -⟩ := HFC.out w h
      by_cases h0 : 0 ≤ x
      · have d0 : decide (x < 0) = false := by simp; omega
        by_cases h1 : x < (r.f.b.length : Int)
        · have HF : Hid (D.turn s x c0 = (0, D.put (Dk.turned r.f x.toNat c0))) := Lib.hid (turn_in hn (h.get_some hp) ⟨h0, h1⟩)
          obtain ⟨j, rfl⟩ : ∃ j : Nat, x = (j : Int) := ⟨x.toNat, by omega⟩
          have hj : j < r.f.b.length := by omega
          have HJ := Lib.hid hj
          have d1 : decide ((r.f.b.length : Int) ≤ (j : Int)) = false := by simp; omega
          have b1 : (0 : Int) ≤ (j : Int) := by omega
          obtain ⟨ix, hix, hz0, hz1, hz2⟩ := info_parts Try.uinfo
          have HRM : Hid (r.f.b.length ≤ 1073741824) := Lib.hid (by
            have h1 : r.f ∈ D.F := by rw [← h.eq]; exact List.mem_map_of_mem hmem
            have h2 : (r.f.b.length : Int) ≤ D.room := hi.one_le h1
            have := hi.room
            omega)
          have hw1 := below_alloc w (.cells #[] 5)
          have HSR : Hid (Src Try.prog 1 29 (.slice pv r.f.b.length pc) r.f.b.length (r.f.b.map B) (w.alloc (.cells #[] 5))) := Lib.hid (by have := Row.src Try.underlying29 (Fresh.rd (own_keep (h.body r hmem) hw1)); rw [hv] at this; exact this)
          have HOW : Hid ((w.alloc (.cells #[] 5)).ownsRow w.heap.size 5 1 (.slice (some ⟨w.heap.size, 0, none⟩) 0 0) 0 []) := Lib.hid (World.ownsRow_lit (e := 5) (size := 1) w #[] 0 (Nat.le_refl _) (by simp [maxLen]) rfl)
          have HB1 := Lib.hid hw1
          obtain ⟨y0, y1, -⟩ := HFC.out _ (h.kept hw1)
          obtain ⟨y, hy⟩ : ∃ y, y = r.f.b[j] := ⟨_, rfl⟩
          have HY := Lib.hid hy
          have HSET : Hid (∀ w6 v6, RDk w6 g vF D L → Fresh 0 w6 v6 (Dk.turned r.f j c0).b → ∃ L', RDk (w6.setCell ⟨q, k * 3 + 1, none⟩ v6) g vF (D.put (Dk.turned r.f j c0)) L' ∧ Frp (fpR g vF L) w6 (w6.setCell ⟨q, k * 3 + 1, none⟩ v6) ∧ ∀ y, fpR g vF L' y → fpR g vF L y ∨ v6.ownBlock = some y) := Lib.hid (fun w6 v6 h6 f6 => by
            have hset := h6.setAt (i := k) (j := 1) (u := v6) (x := ⟨Dk.turned r.f j c0, v6⟩) (D' := D.put (Dk.turned r.f j c0)) hk (by omega) (by rw [he]; rfl) hvF f6 (by rw [hkk]; exact put_set h6 hr hp (kfnd_mem hp).2) rfl
            exact ⟨_, hset, (Frp.refl (fpR g vF L) w6).set (p := ⟨q, k * 3 + 1, none⟩) (.inr (.inl (by rw [hvF]; rfl))) _, fun y hy => fpR_set hy⟩)
          clear h hi hs hn hr hp hk he hkk hmem hv hvF hw1 hy hj h0
          go_enter Try.func54, Try.ntmps54
          go_upto_region 7 with (first
            | (go_at_call 69; refine (HNM.out _).mono ?_; rintro e w3 ⟨rfl, rfl⟩)
            | (go_at_call 64; refine HP.out.mono ?_; rintro e w3 ⟨rfl, rfl⟩)
            | (at_builtin; refine wpList_app5 rfl _ _ 29 29 rfl w.heap.size 5 ix (.int .u8 0) 1 1 Try.underlying29 hix hz0 hz1 hz2 rfl _ 0 [] rfl HOW.out _ r.f.b.length (r.f.b.map B) rfl HSR.out (by have := HRM.out; unfold maxLen; omega) (by have := HRM.out; omega) HB1.out.size ?_; intro v6 w6 hown6 hgrow6 hn6; have HO6 : Hid (w6.ownsRow w.heap.size 5 1 v6 r.f.b.length (r.f.b.map B)) := Lib.hid (by simpa using hown6); have HB6 := Lib.hid (below_grown HB1.out HB1.out.size HOW.out hgrow6); clear hown6 hgrow6 hn6))
          obtain ⟨g6, c6, rfl, -, -, -⟩ := own_block HO6.out (by have := HJ.out; omega)
          have y2 := own_cell HO6.out (j := j) (u := B y) (by rw [HY.out, List.getElem?_map, List.getElem?_eq_getElem HJ.out]; rfl)
          have fy := own_free HO6.out j
          clear x0 x1 y0 y1
          go_upto_region 8 with fail
          rw [xor_u8]
          obtain ⟨w7, hw7⟩ : ∃ w7, w7 = w6.setCell ⟨g6, j, none⟩ (B (y ^^^ c0)) := ⟨_, rfl⟩
          rw [← hw7]
          have hf7 : Frp (fun i => i = g6) w6 w7 := by rw [hw7]; exact (Frp.refl (fun i => i = g6) w6).set (p := ⟨g6, j, none⟩) rfl _
          have hlo : w.heap.size ≤ g6 := own_lo HO6.out rfl
          have H7 : Hid (RDk w7 g vF D L) := Lib.hid ((H.out.kept HB6.out).frp hf7 (fun y hy e => by have := H.out.lt hy; omega))
          have HO7 : Hid (Fresh 0 w7 (.slice (some ⟨g6, 0, none⟩) r.f.b.length c6) (Dk.turned r.f j c0).b) := Lib.hid (by
            have hlt : (Dk.turned r.f j c0).b = r.f.b.set j (y ^^^ c0) := by
              unfold Dk.turned
              simp only
              rw [modify_set HJ.out, HY.out]
              rfl
            have := own_set (own_mono HO6.out (Nat.zero_le _)) (k := j) (by have := HJ.out; omega) (B (y ^^^ c0))
            rw [hlt, hw7]
            unfold Fresh
            rw [List.length_set, List.map_set]
            exact this)
          have HF7 := Lib.hid hf7
          have HLO := Lib.hid hlo
          obtain ⟨y0, y1, fz⟩ := HFC.out _ H7.out
          clear y2 fy hw7 hf7 hlo
          go_wp2
          go_ret
          rw [HF.out]
          obtain ⟨L', h8, f8, n8⟩ := HSET.out _ _ H7.out HO7.out
          refine ⟨rfl, _, L', h8, ⟨?_, fun y hy => ?_⟩⟩
          · exact ((Frp.of_below HB6.out _).trans HF7.out (fun i hi => .inr (by rw [hi]; exact HLO.out))).then f8
          · rcases n8 y hy with h1 | h1
            · exact .inl h1
            · exact .inr (by have := HLO.out; simp [Value.ownBlock] at h1; omega)
        · have HF : Hid (D.turn s x c0 = (6, D)) := Lib.hid (turn_out hn (h.get_some hp) (by omega))
          have d1 : decide ((r.f.b.length : Int) ≤ x) = true := by simp; omega
          clear h hi hs hn hr hp hk he hkk hmem hv hvF h0 h1
          go_enter Try.func54, Try.ntmps54
          go_wp2_with (first
            | (go_at_call 69; refine (HNM.out _).mono ?_; rintro e w3 ⟨rfl, rfl⟩)
            | (go_at_call 64; refine HP.out.mono ?_; rintro e w3 ⟨rfl, rfl⟩))
          go_ret
          rw [HF.out]
          exact ⟨rfl, RdTo.same H.out HB0.out⟩
      · have HF : Hid (D.turn s x c0 = (6, D)) := Lib.hid (turn_out hn (h.get_some hp) (by omega))
        have d0 : decide (x < 0) = true := by simp; omega
        clear h hi hs hn hr hp hk he hkk hmem hv hvF h0
        go_enter Try.func54, Try.ntmps54
        go_wp2_with (first
          | (go_at_call 69; refine (HNM.out _).mono ?_; rintro e w3 ⟨rfl, rfl⟩)
          | (go_at_call 64; refine HP.out.mono ?_; rintro e w3 ⟨rfl, rfl⟩))
        go_ret
        rw [HF.out]
        exact ⟨rfl, RdTo.same H.out HB0.out⟩
end
end Go.Proofs.Ytgcemddobcjpnaa
