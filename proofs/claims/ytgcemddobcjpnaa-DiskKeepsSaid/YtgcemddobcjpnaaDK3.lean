/- Texts of one proof, laid together: Rd2, Clone, Rd3, Rd4. No condition of ours. -/
import Derived.Test.YtgcemddobcjpnaaDK2
import Derived.Deep.DeepCutAuto
import Derived.Outline
namespace Go.Proofs.Ytgcemddobcjpnaa
open Go.RowKit

theorem info_file : (Try.prog.info? 86).map (fun i => (i.zero, i.size, i.bytes)) = some (some (.agg #[.string ⟨#[]⟩, .slice none 0 0, .int .i64 0]), 3, 48) := by kernel_rfl
theorem map_erase {α β : Type} (f : α → β) (L : List α) (k : Nat) : (L.eraseIdx k).map f = (L.map f).eraseIdx k := by
  rw [List.eraseIdx_eq_take_drop_succ, List.eraseIdx_eq_take_drop_succ, List.map_append, List.map_take, List.map_drop]
theorem i64_in {n : Int} (h : -9223372036854775808 ≤ n ∧ n ≤ 9223372036854775807) : IntKind.i64.wrap n = n := by
  rw [IntKind.wrap_i64]; omega
/-- a part of the row, as a source -/
theorem src_first {w w' : World} {g : Nat} {p : Option Addr} {c i : Nat} {D : Dk} {L : List Rf} (h : RDk w g (.slice p L.length c) D L) (hb : Below w.heap.size w w') (hi : i ≤ L.length) : Src Try.prog 3 78 (.slice p i c) i (rwC Rf.c (L.take i)) w' := by
  have h1 := row_first (row_of_owns (h.kept hb).row h.cone) hi
  rw [rwC_take rfC_len hi] at h1
  exact h1.src Try.underlying78
theorem src_rest {w w' : World} {g : Nat} {p : Option Addr} {c i : Nat} {D : Dk} {L : List Rf} (h : RDk w g (.slice p L.length c) D L) (hb : Below w.heap.size w w') (hi : i ≤ L.length) : Src Try.prog 3 78 (.slice (if c = i then p else Option.map (fun x => x.add (i * 3)) p) (L.length - i) (c - i)) (L.length - i) (rwC Rf.c (L.drop i)) w' := by
  have h1 := row_rest (row_of_owns (h.kept hb).row h.cone) hi
  rw [rwC_drop rfC_len hi] at h1
  exact h1.src Try.underlying78

set_option maxRecDepth 100000 in
set_option maxHeartbeats 4000000 in
theorem rcut_any (g k : Nat) (vF : Value) (D D' : Dk) (L : List Rf) (w : World) (h : RDk w g vF D L) (hk : k < L.length) (hl : L.length ≤ 100000) (hF : D'.F = D.F.eraseIdx k) (hC : ∀ v, rdC v D' = rdC v D) :
    Calls Try.prog 68 #[ptr g, .int .i64 (k : Int)] w fun e w' => e = .returned (.tuple #[]) ∧ ∃ vF', RDk w' g vF' D' (L.eraseIdx k) ∧ RSt w w' g vF vF' L (L.eraseIdx k) ∧ Frp (fun j => j = g) w w' := by
  obtain ⟨ix, hi, hz0, hz1, hz2⟩ := info_parts info_file
  obtain ⟨p, c, rfl, hc, hm, -⟩ := h.shape
  have hml : maxLen ≤ 9223372036854775807 := by decide
  have H := Lib.hid h
  have HL := Lib.hid hl
  have HK := Lib.hid hk
  have HF := Lib.hid hF
  have HC := Lib.hid hC
  have HSS : Hid (∀ w', Below w.heap.size w w' → w'.cell? ⟨g, 1, none⟩ = some (.slice p L.length c)) := Lib.hid (fun w' hb => (h.kept hb).blk.cell (j := 1) rfl)
  have b1 : (0 : Int) ≤ (k : Int) := by omega
  have b2 : (k : Int) ≤ (L.length : Int) := by omega
  have b3 : (k : Int) ≤ (c : Int) := by omega
  have b4 : (0 : Int) ≤ (k : Int) + 1 := by omega
  have b5 : (k : Int) + 1 ≤ (L.length : Int) := by omega
  have b6 : (L.length : Int) ≤ (c : Int) := by omega
  have u1 : IntKind.i64.wrap ((k : Int) + 1) = (k : Int) + 1 := i64_in (by omega)
  have u2 : ((k : Int) + 1).toNat = k + 1 := by omega
  clear h hF hC hl
  go_enter Try.func68, Try.ntmps68
  refine wp_region_noPanic ?_
  refine wp_region_lastH (fun w' => w'.cell? ⟨g, 1, none⟩ = some (.slice p L.length c)) 19 rfl rfl (by kernel_rfl) (by kernel_rfl) (HSS.out _ (below_drewN 1)) (fun hHeld => ?_)
  have HB1 : Hid (Below w.heap.size w w.drew) := Lib.hid (below_drewN 1)
  have hS1 : True := trivial
  obtain ⟨wd1, hwd⟩ : ∃ xq, xq = w.drew := ⟨_, rfl⟩
  rw [← hwd] at hHeld HB1 ⊢
  clear hwd
  refine wpAnyH_take (i := 0) (v := ?v1) rfl (by kernel_rfl) (by kernel_rfl) (by kernel_rfl) (fun _ _ _ h => h) (Or.inl ⟨by rfl, ?hy1⟩) (by assumption) ?rest1
  case hy1 => (intro _ hSw; (try dsimp only at hSw); go_simp; (try with_reducible rfl))
  (try simp only [Act.put]); (try simp only [List.setIfInBounds_toArray]); (try simp only [List.set_cons_succ]); (try simp only [List.set_cons_zero])
  refine wpAnyH_take (i := 2) (v := ?v2) rfl (by kernel_rfl) (by kernel_rfl) (by kernel_rfl) (fun _ _ _ h => h) (Or.inl ⟨by rfl, ?hy2⟩) (by assumption) ?rest2
  case hy2 => (intro _ hSw; (try dsimp only at hSw); go_simp; (try with_reducible rfl))
  (try simp only [Act.put]); (try simp only [List.setIfInBounds_toArray]); (try simp only [List.set_cons_succ]); (try simp only [List.set_cons_zero])
  refine wpAnyH_take (i := 3) (v := ?v3) rfl (by kernel_rfl) (by kernel_rfl) (by kernel_rfl) (fun _ _ _ h => h) (Or.inl ⟨by rfl, ?hy3⟩) (by assumption) ?rest3
  case hy3 => (intro _ hSw; (try dsimp only at hSw); go_simp; (try with_reducible rfl))
  (try simp only [Act.put]); (try simp only [List.setIfInBounds_toArray]); (try simp only [List.set_cons_succ]); (try simp only [List.set_cons_zero])
  refine wpAnyH_take (i := 4) (v := ?v4) rfl (by kernel_rfl) (by kernel_rfl) (by kernel_rfl) (fun _ _ _ h => h) (Or.inl ⟨by rfl, ?hy4⟩) (by assumption) ?rest4
  case hy4 => (intro _ hSw; (try dsimp only at hSw); go_simp; (try with_reducible rfl))
  (try simp only [Act.put]); (try simp only [List.setIfInBounds_toArray]); (try simp only [List.set_cons_succ]); (try simp only [List.set_cons_zero])
  refine wpAnyH_take (i := 5) (v := ?v5) rfl (by kernel_rfl) (by kernel_rfl) (by kernel_rfl) (fun _ _ _ h => h) (Or.inl ⟨by rfl, ?hy5⟩) (by assumption) ?rest5
  case hy5 => (intro _ hSw; (try dsimp only at hSw); go_simp; (try with_reducible rfl))
  (try simp only [Act.put]); (try simp only [List.setIfInBounds_toArray]); (try simp only [List.set_cons_succ]); (try simp only [List.set_cons_zero])
  refine wpAnyH_take (i := 6) (v := ?v6) rfl (by kernel_rfl) (by kernel_rfl) (by kernel_rfl) (fun _ _ _ h => h) (Or.inl ⟨by rfl, ?hy6⟩) (by assumption) ?rest6
  case hy6 => (intro _ hSw; (try dsimp only at hSw); go_simp; (try with_reducible rfl))
  (try simp only [Act.put]); (try simp only [List.setIfInBounds_toArray]); (try simp only [List.set_cons_succ]); (try simp only [List.set_cons_zero])
  refine wpAnyH_take (i := 7) (v := ?v7) rfl (by kernel_rfl) (by kernel_rfl) (by kernel_rfl) (fun _ _ _ h => h) (Or.inl ⟨by rfl, ?hy7⟩) (by assumption) ?rest7
  case hy7 => (intro _ hSw; (try dsimp only at hSw); go_simp; (try with_reducible rfl))
  (try simp only [Act.put]); (try simp only [List.setIfInBounds_toArray]); (try simp only [List.set_cons_succ]); (try simp only [List.set_cons_zero])
  refine wpAnyH_take (i := 9) (v := ?v8) rfl (by kernel_rfl) (by kernel_rfl) (by kernel_rfl) (fun _ _ _ h => h) (Or.inl ⟨by rfl, ?hy8⟩) (by assumption) ?rest8
  case hy8 => (intro _ hSw; (try dsimp only at hSw); go_simp; (try with_reducible rfl))
  (try simp only [Act.put]); (try simp only [List.setIfInBounds_toArray]); (try simp only [List.set_cons_succ]); (try simp only [List.set_cons_zero])
  refine wpAnyH_take (i := 10) (v := ?v9) rfl (by kernel_rfl) (by kernel_rfl) (by kernel_rfl) (fun _ _ _ h => h) (Or.inl ⟨by rfl, ?hy9⟩) (by assumption) ?rest9
  case hy9 => (intro _ hSw; (try dsimp only at hSw); go_simp; (try with_reducible rfl))
  (try simp only [Act.put]); (try simp only [List.setIfInBounds_toArray]); (try simp only [List.set_cons_succ]); (try simp only [List.set_cons_zero])
  refine wpAnyH_take (i := 11) (v := ?v10) rfl (by kernel_rfl) (by kernel_rfl) (by kernel_rfl) (fun _ _ _ h => h) (Or.inl ⟨by rfl, ?hy10⟩) (by assumption) ?rest10
  case hy10 => (intro _ hSw; (try dsimp only at hSw); go_simp; (try with_reducible rfl))
  (try simp only [Act.put]); (try simp only [List.setIfInBounds_toArray]); (try simp only [List.set_cons_succ]); (try simp only [List.set_cons_zero])
  refine wpAnyH_take (i := 12) (v := ?v11) rfl (by kernel_rfl) (by kernel_rfl) (by kernel_rfl) (fun _ _ _ h => h) (Or.inl ⟨by rfl, ?hy11⟩) (by assumption) ?rest11
  case hy11 => (intro _ hSw; (try dsimp only at hSw); go_simp; (try with_reducible rfl))
  (try simp only [Act.put]); (try simp only [List.setIfInBounds_toArray]); (try simp only [List.set_cons_succ]); (try simp only [List.set_cons_zero])
  refine wpAnyH_take (i := 13) (v := ?v12) rfl (by kernel_rfl) (by kernel_rfl) (by kernel_rfl) (fun _ _ _ h => h) (Or.inl ⟨by rfl, ?hy12⟩) (by assumption) ?rest12
  case hy12 => (intro _ hSw; (try dsimp only at hSw); go_simp; (try with_reducible rfl))
  (try simp only [Act.put]); (try simp only [List.setIfInBounds_toArray]); (try simp only [List.set_cons_succ]); (try simp only [List.set_cons_zero])
  refine wpAnyH_take (i := 14) (v := ?v13) rfl (by kernel_rfl) (by kernel_rfl) (by kernel_rfl) (fun _ _ _ h => h) (Or.inl ⟨by rfl, ?hy13⟩) (by assumption) ?rest13
  case hy13 => (intro _ hSw; (try dsimp only at hSw); go_simp; (try with_reducible rfl))
  (try simp only [Act.put]); (try simp only [List.setIfInBounds_toArray]); (try simp only [List.set_cons_succ]); (try simp only [List.set_cons_zero])
  refine wpAnyH_take (i := 15) (v := ?v14) rfl (by kernel_rfl) (by kernel_rfl) (by kernel_rfl) (fun _ _ _ h => h) (Or.inl ⟨by rfl, ?hy14⟩) (by assumption) ?rest14
  case hy14 => (intro _ hSw; (try dsimp only at hSw); go_simp; (try with_reducible rfl))
  (try simp only [Act.put]); (try simp only [List.setIfInBounds_toArray]); (try simp only [List.set_cons_succ]); (try simp only [List.set_cons_zero])
  (try simp only [List.getElem_toArray]); (try simp only [List.getElem_cons_succ]); (try simp only [List.getElem_cons_zero]); (try simp only [List.setIfInBounds_toArray]); (try simp only [List.set_cons_succ, List.set_cons_zero])
  refine wpAnyH_ready (rs := [1]) (by kernel_rfl) (by simp) ?_
  refine (AllReadyH.cons rfl (fun K hK => ?_) AllReadyH.nil)
  (try simp only [List.getElem_toArray]); (try simp only [List.getElem_cons_succ]); (try simp only [List.getElem_cons_zero])
  go_simp
  obtain ⟨w2x, hw2⟩ : ∃ xq, xq = wd1.alloc (.cells #[] 86) := ⟨_, rfl⟩
  obtain ⟨z2, hz2⟩ : ∃ xq, xq = wd1.heap.size := ⟨_, rfl⟩
  have hn2 : Below wd1.heap.size wd1 w2x := by rw [hw2]; exact below_alloc _ _
  have hb2 : Below w.heap.size w w2x := below_and HB1.out hn2
  have HB2 := Lib.hid hb2
  have HO2 : Hid (w2x.ownsRow w.heap.size 86 3 (.slice (some ⟨z2, 0, none⟩) 0 0) 0 []) := Lib.hid (by rw [hw2, hz2]; exact World.ownsRow_made wd1 #[] 0 HB1.out.size (by decide) rfl)
  rw [← hw2, ← hz2]
  refine hK.out _ _ (HSS.out _ hb2) (fun hS2 => ?_)
  clear hK K hb2 hw2 hz2 hn2 hS1
  (try simp only [Act.put]); (try simp only [List.setIfInBounds_toArray]); (try simp only [List.set_cons_succ]); (try simp only [List.set_cons_zero])
  refine wpAnyH_ready (rs := [8]) (by kernel_rfl) (by simp) ?_
  refine (AllReadyH.cons rfl (fun K hK => ?_) AllReadyH.nil)
  refine step_app rfl (.tmp 5) (.tmp 11) 78 78 rfl w.heap.size 86 ix (.agg #[.string ⟨#[]⟩, .slice none 0 0, .int .i64 0]) 3 48 Try.underlying78 hi hz0 hz1 hz2 rfl (.slice (some ⟨z2, 0, none⟩) 0 0) 0 [] (by rfl) HO2.out (.slice p k c) k (rwC Rf.c (L.take k)) (by rfl) (src_first H.out HB2.out (by have := HK.out; omega)) (by have := HL.out; have := HK.out; unfold maxLen; omega) (by have := HL.out; have := HK.out; omega) HB2.out.size ?_
  intro v3 w3x ho3 hg3 hn3 hk3
  have HO3 : Hid (w3x.ownsRow w.heap.size 86 3 v3 k (rwC Rf.c (L.take k))) := Lib.hid (by simpa using ho3)
  have hb3 : Below w.heap.size w w3x := HB2.out.trans ((Fr.of_grown hg3).below (by intro y hy; exact own_lo HO2.out (Option.mem_toList.1 hy)) HB2.out.size)
  have HB3 := Lib.hid hb3
  refine hK.out _ _ (HSS.out _ hb3) (fun hS3 => ?_)
  clear hK K hb3 ho3 hg3 hn3 hk3 hS2
  (try simp only [Act.put]); (try simp only [List.setIfInBounds_toArray]); (try simp only [List.set_cons_succ]); (try simp only [List.set_cons_zero])
  refine wpAnyH_ready (rs := [16]) (by kernel_rfl) (by simp) ?_
  refine (AllReadyH.cons rfl (fun K hK => ?_) AllReadyH.nil)
  refine step_app rfl (.tmp 12) (.tmp 19) 78 78 rfl w.heap.size 86 ix (.agg #[.string ⟨#[]⟩, .slice none 0 0, .int .i64 0]) 3 48 Try.underlying78 hi hz0 hz1 hz2 rfl v3 k (rwC Rf.c (L.take k)) (by rfl) HO3.out (.slice (if c = k + 1 then p else Option.map (fun x => x.add ((k + 1) * 3)) p) (L.length - (k + 1)) (c - (k + 1))) (L.length - (k + 1)) (rwC Rf.c (L.drop (k + 1))) (by rfl) (src_rest H.out HB3.out HK.out) (by have := HL.out; have := HK.out; unfold maxLen; omega) (by have := HL.out; have := HK.out; omega) HB3.out.size ?_
  intro v4 w4x ho4 hg4 hn4 hk4
  have HO4 : Hid (w4x.ownsRow w.heap.size 86 3 v4 (k + (L.length - (k + 1))) (rwC Rf.c (L.take k) ++ rwC Rf.c (L.drop (k + 1)))) := Lib.hid (by exact ho4)
  have hb4 : Below w.heap.size w w4x := HB3.out.trans ((Fr.of_grown hg4).below (by intro y hy; exact own_lo HO3.out (Option.mem_toList.1 hy)) HB3.out.size)
  have HB4 := Lib.hid hb4
  refine hK.out _ _ (HSS.out _ hb4) (fun hS4 => ?_)
  clear hK K hb4 ho4 hg4 hn4 hk4 hS3
  (try simp only [Act.put]); (try simp only [List.setIfInBounds_toArray]); (try simp only [List.set_cons_succ]); (try simp only [List.set_cons_zero])
  refine wpAnyH_take (i := 17) (v := ?v15) rfl (by kernel_rfl) (by kernel_rfl) (by kernel_rfl) (fun _ _ _ h => h) (Or.inl ⟨by rfl, ?hy15⟩) (by assumption) ?rest15
  case hy15 => (intro _ hSw; (try dsimp only at hSw); go_simp; (try with_reducible rfl))
  (try simp only [Act.put]); (try simp only [List.setIfInBounds_toArray]); (try simp only [List.set_cons_succ]); (try simp only [List.set_cons_zero])
  refine wpAnyH_take (i := 18) (v := ?v16) rfl (by kernel_rfl) (by kernel_rfl) (by kernel_rfl) (fun _ _ _ h => h) (Or.inl ⟨by rfl, ?hy16⟩) (by assumption) ?rest16
  case hy16 => (intro _ hSw; (try dsimp only at hSw); go_simp; (try with_reducible rfl))
  (try simp only [Act.put]); (try simp only [List.setIfInBounds_toArray]); (try simp only [List.set_cons_succ]); (try simp only [List.set_cons_zero])
  refine wpAnyH_done (by kernel_rfl) ?_ _
  refine LastQ.start rfl ?_
  clear hS4 hHeld
  have d1 := HSS.out _ HB4.out
  have f1 := (H.out.kept HB4.out).blk.free 1
  obtain ⟨p8, c8, hv8, -, -⟩ := own_slice HO4.out
  have HO8 := HO4
  subst hv8
  generalize (if c = k + 1 then p else Option.map (fun x => x.add ((k + 1) * 3)) p) = pp
  go_wp2
  refine NoPanic.normal ?_
  (try go_wp2)
  have hle : (L.eraseIdx k).length = k + (L.length - (k + 1)) := by rw [List.length_eraseIdx_of_lt HK.out]; have := HK.out; omega
  have ho8 := HO8.out
  rw [rwC_erase] at ho8
  have ho9 : World.ownsRow w4x w.heap.size 86 3 (.slice p8 (k + (L.length - (k + 1))) c8) (L.eraseIdx k).length (rwC Rf.c (L.eraseIdx k)) := by rw [hle]; exact ho8
  have hset := H.out.setL HB4.out (L9 := L.eraseIdx k) (D' := D') ho9 (by rw [HF.out, ← H.out.eq]; exact map_erase Rf.f L k) (HC.out _) (fun r hr => own_keep (H.out.body r (List.mem_of_mem_eraseIdx hr)) HB4.out)
  refine end0 rfl rfl ⟨rfl, _, hset, ⟨((Frp.of_below HB4.out _).set (p := ⟨g, 1, none⟩) (.inl rfl) _), fun y hy => ?_⟩, (Frp.of_below HB4.out (fun j => j = g)).set (p := ⟨g, 1, none⟩) rfl _⟩
  rcases hy with hy | hy | ⟨r, hr, hy⟩
  · exact .inl (.inl hy)
  · exact .inr (own_lo ho9 hy)
  · exact .inl (.inr (.inr ⟨r, List.mem_of_mem_eraseIdx hr, hy⟩))

set_option maxRecDepth 100000 in
set_option maxHeartbeats 8000000 in
theorem rput_any (g : Nat) (vF : Value) (D D' : Dk) (L : List Rf) (x : Rf) (w : World) (h : RDk w g vF D L) (hr : KRise Fl.key D.F) (hx : Fresh 0 w x.v x.f.b) (hl : L.length ≤ 100000) (hF : D'.F = D.F.take (kpl Rf.key L x.key) ++ x.f :: D.F.drop (kpl Rf.key L x.key)) (hC : ∀ v, rdC v D' = rdC v D) :
    Calls Try.prog 66 #[ptr g, .agg #[.string x.f.n, x.v, .int .i64 (x.f.s : Int)]] w fun e w' => e = .returned (.tuple #[]) ∧ ∃ vF', RDk w' g vF' D' (L.take (kpl Rf.key L x.key) ++ x :: L.drop (kpl Rf.key L x.key)) ∧ RSt w w' g vF vF' (x :: L) (L.take (kpl Rf.key L x.key) ++ x :: L.drop (kpl Rf.key L x.key)) := by
  obtain ⟨ix, hi, hz0, hz1, hz2⟩ := info_parts info_file
  obtain ⟨p, c, rfl, hc, hm, -⟩ := h.shape
  have hml : maxLen ≤ 9223372036854775807 := by decide
  obtain ⟨w1, hw1⟩ : ∃ w1, w1 = w.alloc (.cells #[.string x.f.n, x.v, .int .i64 (x.f.s : Int)] 86) := ⟨_, rfl⟩
  obtain ⟨B, hB⟩ : ∃ B, B = w.heap.size := ⟨_, rfl⟩
  have hb1 : Below w.heap.size w w1 := by rw [hw1]; exact below_alloc _ _
  have HBX : Hid (Blk w1 B (Rf.c x) 86) := Lib.hid (by rw [hw1, hB]; exact Blk.made w (Rf.c x) _)
  have h1 := h.kept hb1
  have HB0 := Lib.hid hb1
  have HX := Lib.hid (own_keep hx hb1)
  have H := Lib.hid h1
  have HH := Lib.hid h
  have HL := Lib.hid hl
  have HF := Lib.hid hF
  have HC := Lib.hid hC
  obtain ⟨k, hk⟩ : ∃ k, k = kpl Rf.key L x.key := ⟨_, rfl⟩
  have HPL : Hid (∀ w' , RDk w' g (.slice p L.length c) D L → Calls Try.prog 64 #[ptr g, .string x.f.n] w' fun e w2 => (∃ bb, e = .returned (.tuple #[.int .i64 (k : Int), .bool bb])) ∧ w' = w2) := Lib.hid (fun w' h' => (rplace_any g _ D L x.f.n w' h' hr).mono fun e w2 ⟨he, hw⟩ => ⟨⟨(kfnd Rf.key L x.f.n.data.toList).isSome, by rw [he, hk]; rfl⟩, hw⟩)
  have HK : Hid (k ≤ L.length) := Lib.hid (by rw [hk]; exact kpl_le L _)
  have HKE := Lib.hid hk
  rw [← hk]
  rw [← hk] at HF
  have HSS : Hid (∀ w', Below w1.heap.size w1 w' → w'.cell? ⟨g, 1, none⟩ = some (.slice p L.length c) ∧ w'.cell? ⟨B, 0, none⟩ = some (.string x.f.n) ∧ w'.cell? ⟨B, 1, none⟩ = some x.v ∧ w'.cell? ⟨B, 2, none⟩ = some (.int .i64 (x.f.s : Int))) := Lib.hid (fun w' hb => ⟨(h1.kept hb).blk.cell (j := 1) rfl, (HBX.out.kept hb).cell (j := 0) rfl, (HBX.out.kept hb).cell (j := 1) rfl, (HBX.out.kept hb).cell (j := 2) rfl⟩)
  have HONE : Hid (∀ u ∈ (Rf.c x : List Value), u.oneCell' = true) := Lib.hid (by
    intro u hu
    simp only [Rf.c, List.mem_cons, List.not_mem_nil, or_false] at hu
    rcases hu with rfl | rfl | rfl
    · rfl
    · exact own_one hx
    · rfl)
  have b1 : (0 : Int) ≤ (k : Int) := by omega
  have b2 : (k : Int) ≤ (L.length : Int) := by have := HK.out; omega
  have b3 : (k : Int) ≤ (c : Int) := by omega
  have b6 : (L.length : Int) ≤ (c : Int) := by omega
  have z0 := HBX.out.cell (j := 0) rfl
  clear h h1 hF hC hl hr hx hb1 hk
  go_enter Try.func66, Try.ntmps66
  go_upto_region 1 with fail
  rw [← hw1, ← hB]
  clear hw1 hB
  go_upto_region 2 with (go_at_call 64; refine (HPL.out _ H.out).mono ?_; rintro e w' ⟨⟨bb, rfl⟩, rfl⟩)
  clear z0
  refine wp_region_noPanic ?_
  refine wp_region_lastH (fun w' => w'.cell? ⟨g, 1, none⟩ = some (.slice p L.length c) ∧ w'.cell? ⟨B, 0, none⟩ = some (.string x.f.n) ∧ w'.cell? ⟨B, 1, none⟩ = some x.v ∧ w'.cell? ⟨B, 2, none⟩ = some (.int .i64 (x.f.s : Int))) 21 rfl rfl (by kernel_rfl) (by kernel_rfl) (HSS.out _ (below_drewN 1)) (fun hHeld => ?_)
  have HB5 : Hid (Below w1.heap.size w1 w1.drew) := Lib.hid (below_drewN 1)
  have hS5 : True := trivial
  obtain ⟨wd5, hwd⟩ : ∃ xq, xq = w1.drew := ⟨_, rfl⟩
  rw [← hwd] at hHeld HB5 ⊢
  clear hwd
  refine wpAnyH_take (i := 0) (v := ?v17) rfl (by kernel_rfl) (by kernel_rfl) (by kernel_rfl) (fun _ _ _ h => h) (Or.inl ⟨by rfl, ?hy17⟩) (by assumption) ?rest17
  case hy17 => (intro _ hSw; (try dsimp only at hSw); go_simp; (try with_reducible rfl))
  (try simp only [Act.put]); (try simp only [List.setIfInBounds_toArray]); (try simp only [List.set_cons_succ]); (try simp only [List.set_cons_zero])
  refine wpAnyH_take (i := 2) (v := ?v18) rfl (by kernel_rfl) (by kernel_rfl) (by kernel_rfl) (fun _ _ _ h => h) (Or.inl ⟨by rfl, ?hy18⟩) (by assumption) ?rest18
  case hy18 => (intro _ hSw; (try dsimp only at hSw); go_simp; (try with_reducible rfl))
  (try simp only [Act.put]); (try simp only [List.setIfInBounds_toArray]); (try simp only [List.set_cons_succ]); (try simp only [List.set_cons_zero])
  refine wpAnyH_take (i := 3) (v := ?v19) rfl (by kernel_rfl) (by kernel_rfl) (by kernel_rfl) (fun _ _ _ h => h) (Or.inl ⟨by rfl, ?hy19⟩) (by assumption) ?rest19
  case hy19 => (intro _ hSw; (try dsimp only at hSw); go_simp; (try with_reducible rfl))
  (try simp only [Act.put]); (try simp only [List.setIfInBounds_toArray]); (try simp only [List.set_cons_succ]); (try simp only [List.set_cons_zero])
  refine wpAnyH_take (i := 4) (v := ?v20) rfl (by kernel_rfl) (by kernel_rfl) (by kernel_rfl) (fun _ _ _ h => h) (Or.inl ⟨by rfl, ?hy20⟩) (by assumption) ?rest20
  case hy20 => (intro _ hSw; (try dsimp only at hSw); go_simp; (try with_reducible rfl))
  (try simp only [Act.put]); (try simp only [List.setIfInBounds_toArray]); (try simp only [List.set_cons_succ]); (try simp only [List.set_cons_zero])
  refine wpAnyH_take (i := 5) (v := ?v21) rfl (by kernel_rfl) (by kernel_rfl) (by kernel_rfl) (fun _ _ _ h => h) (Or.inl ⟨by rfl, ?hy21⟩) (by assumption) ?rest21
  case hy21 => (intro _ hSw; (try dsimp only at hSw); go_simp; (try with_reducible rfl))
  (try simp only [Act.put]); (try simp only [List.setIfInBounds_toArray]); (try simp only [List.set_cons_succ]); (try simp only [List.set_cons_zero])
  refine wpAnyH_take (i := 6) (v := ?v22) rfl (by kernel_rfl) (by kernel_rfl) (by kernel_rfl) (fun _ _ _ h => h) (Or.inl ⟨by rfl, ?hy22⟩) (by assumption) ?rest22
  case hy22 => (intro _ hSw; (try dsimp only at hSw); go_simp; (try with_reducible rfl))
  (try simp only [Act.put]); (try simp only [List.setIfInBounds_toArray]); (try simp only [List.set_cons_succ]); (try simp only [List.set_cons_zero])
  refine wpAnyH_take (i := 7) (v := ?v23) rfl (by kernel_rfl) (by kernel_rfl) (by kernel_rfl) (fun _ _ _ h => h) (Or.inl ⟨by rfl, ?hy23⟩) (by assumption) ?rest23
  case hy23 => (intro _ hSw; (try dsimp only at hSw); go_simp; (try with_reducible rfl))
  (try simp only [Act.put]); (try simp only [List.setIfInBounds_toArray]); (try simp only [List.set_cons_succ]); (try simp only [List.set_cons_zero])
  refine wpAnyH_take (i := 9) (v := ?v24) rfl (by kernel_rfl) (by kernel_rfl) (by kernel_rfl) (fun _ _ _ h => h) (Or.inl ⟨by rfl, ?hy24⟩) (by assumption) ?rest24
  case hy24 => (intro _ hSw; (try dsimp only at hSw); go_simp; (try with_reducible rfl))
  (try simp only [Act.put]); (try simp only [List.setIfInBounds_toArray]); (try simp only [List.set_cons_succ]); (try simp only [List.set_cons_zero])
  refine wpAnyH_take (i := 12) (v := ?v25) rfl (by kernel_rfl) (by kernel_rfl) (by kernel_rfl) (fun _ _ _ h => h) (Or.inl ⟨by rfl, ?hy25⟩) (by assumption) ?rest25
  case hy25 => (intro _ hSw; (try dsimp only at hSw); go_simp; (try with_reducible rfl))
  (try simp only [Act.put]); (try simp only [List.setIfInBounds_toArray]); (try simp only [List.set_cons_succ]); (try simp only [List.set_cons_zero])
  refine wpAnyH_take (i := 13) (v := ?v26) rfl (by kernel_rfl) (by kernel_rfl) (by kernel_rfl) (fun _ _ _ h => h) (Or.inl ⟨by rfl, ?hy26⟩) (by assumption) ?rest26
  case hy26 => (intro _ hSw; (try dsimp only at hSw); go_simp; (try with_reducible rfl))
  (try simp only [Act.put]); (try simp only [List.setIfInBounds_toArray]); (try simp only [List.set_cons_succ]); (try simp only [List.set_cons_zero])
  refine wpAnyH_take (i := 14) (v := ?v27) rfl (by kernel_rfl) (by kernel_rfl) (by kernel_rfl) (fun _ _ _ h => h) (Or.inl ⟨by rfl, ?hy27⟩) (by assumption) ?rest27
  case hy27 => (intro _ hSw; (try dsimp only at hSw); go_simp; (try with_reducible rfl))
  (try simp only [Act.put]); (try simp only [List.setIfInBounds_toArray]); (try simp only [List.set_cons_succ]); (try simp only [List.set_cons_zero])
  refine wpAnyH_take (i := 15) (v := ?v28) rfl (by kernel_rfl) (by kernel_rfl) (by kernel_rfl) (fun _ _ _ h => h) (Or.inl ⟨by rfl, ?hy28⟩) (by assumption) ?rest28
  case hy28 => (intro _ hSw; (try dsimp only at hSw); go_simp; (try with_reducible rfl))
  (try simp only [Act.put]); (try simp only [List.setIfInBounds_toArray]); (try simp only [List.set_cons_succ]); (try simp only [List.set_cons_zero])
  refine wpAnyH_take (i := 16) (v := ?v29) rfl (by kernel_rfl) (by kernel_rfl) (by kernel_rfl) (fun _ _ _ h => h) (Or.inl ⟨by rfl, ?hy29⟩) (by assumption) ?rest29
  case hy29 => (intro _ hSw; (try dsimp only at hSw); go_simp; (try with_reducible rfl))
  (try simp only [Act.put]); (try simp only [List.setIfInBounds_toArray]); (try simp only [List.set_cons_succ]); (try simp only [List.set_cons_zero])
  refine wpAnyH_take (i := 17) (v := ?v30) rfl (by kernel_rfl) (by kernel_rfl) (by kernel_rfl) (fun _ _ _ h => h) (Or.inl ⟨by rfl, ?hy30⟩) (by assumption) ?rest30
  case hy30 => (intro _ hSw; (try dsimp only at hSw); go_simp; (try with_reducible rfl))
  (try simp only [Act.put]); (try simp only [List.setIfInBounds_toArray]); (try simp only [List.set_cons_succ]); (try simp only [List.set_cons_zero])
  (try simp only [List.getElem_toArray]); (try simp only [List.getElem_cons_succ]); (try simp only [List.getElem_cons_zero]); (try simp only [List.setIfInBounds_toArray]); (try simp only [List.set_cons_succ, List.set_cons_zero])
  refine wpAnyH_ready (rs := [1, 10]) (by kernel_rfl) (by simp) ?_
  refine (AllReadyH.cons rfl (fun K hK => ?_) (AllReadyH.cons rfl (fun K hK => ?_) AllReadyH.nil))
  · (try simp only [List.getElem_toArray]); (try simp only [List.getElem_cons_succ]); (try simp only [List.getElem_cons_zero])
    go_simp
    obtain ⟨w6x, hw6⟩ : ∃ xq, xq = wd5.alloc (.cells #[] 86) := ⟨_, rfl⟩
    obtain ⟨z6, hz6⟩ : ∃ xq, xq = wd5.heap.size := ⟨_, rfl⟩
    have hn6 : Below wd5.heap.size wd5 w6x := by rw [hw6]; exact below_alloc _ _
    have hb6 : Below w1.heap.size w1 w6x := below_and HB5.out hn6
    have HB6 := Lib.hid hb6
    have HO6 : Hid (w6x.ownsRow w1.heap.size 86 3 (.slice (some ⟨z6, 0, none⟩) 0 0) 0 []) := Lib.hid (by rw [hw6, hz6]; exact World.ownsRow_made wd5 #[] 0 HB5.out.size (by decide) rfl)
    rw [← hw6, ← hz6]
    refine hK.out _ _ (HSS.out _ hb6) (fun hS6 => ?_)
    clear hK K hb6 hw6 hz6 hn6 hS5
    (try simp only [Act.put]); (try simp only [List.setIfInBounds_toArray]); (try simp only [List.set_cons_succ]); (try simp only [List.set_cons_zero])
    refine wpAnyH_ready (rs := [8, 10]) (by kernel_rfl) (by simp) ?_
    refine (AllReadyH.cons rfl (fun K hK => ?_) (AllReadyH.cons rfl (fun K hK => ?_) AllReadyH.nil))
    · refine step_app rfl (.tmp 14) (.tmp 20) 78 78 rfl w1.heap.size 86 ix (.agg #[.string ⟨#[]⟩, .slice none 0 0, .int .i64 0]) 3 48 Try.underlying78 hi hz0 hz1 hz2 rfl (.slice (some ⟨z6, 0, none⟩) 0 0) 0 [] (by rfl) HO6.out (.slice p k c) k (rwC Rf.c (L.take k)) (by rfl) (src_first H.out HB6.out HK.out) (by have := HL.out; have := HK.out; unfold maxLen; omega) (by have := HL.out; have := HK.out; omega) HB6.out.size ?_
      intro v7 w7x ho7 hg7 hn7 hk7
      have HO7 : Hid (w7x.ownsRow w1.heap.size 86 3 v7 k (rwC Rf.c (L.take k))) := Lib.hid (by simpa using ho7)
      have hb7 : Below w1.heap.size w1 w7x := HB6.out.trans ((Fr.of_grown hg7).below (by intro y hy; exact own_lo HO6.out (Option.mem_toList.1 hy)) HB6.out.size)
      have HB7 := Lib.hid hb7
      refine hK.out _ _ (HSS.out _ hb7) (fun hS7 => ?_)
      clear hK K hb7 ho7 hg7 hn7 hk7 hS6
      (try simp only [Act.put]); (try simp only [List.setIfInBounds_toArray]); (try simp only [List.set_cons_succ]); (try simp only [List.set_cons_zero])
      refine wpAnyH_ready (rs := [10]) (by kernel_rfl) (by simp) ?_
      refine (AllReadyH.cons rfl (fun K hK => ?_) AllReadyH.nil)
      (try simp only [List.getElem_toArray]); (try simp only [List.getElem_cons_succ]); (try simp only [List.getElem_cons_zero])
      go_simp
      obtain ⟨w8x, hw8⟩ : ∃ xq, xq = w7x.alloc (.cells #[.string x.f.n, x.v, .int .i64 (x.f.s : Int)] 86) := ⟨_, rfl⟩
      obtain ⟨z8, hz8⟩ : ∃ xq, xq = w7x.heap.size := ⟨_, rfl⟩
      have hn8 : Below w7x.heap.size w7x w8x := by rw [hw8]; exact below_alloc _ _
      have hb8 : Below w1.heap.size w1 w8x := below_and HB7.out hn8
      have HB8 := Lib.hid hb8
      have HY8_10 : Hid (Blk w8x z8 (Rf.c x) 86) := Lib.hid (by rw [hw8, hz8]; exact Blk.made w7x (Rf.c x) _)
      have HO8 := Lib.hid (own_fr HO7.out (Fr.of_below hn8 []) (fun _ _ => by simp))
      have HNE8_10 : Hid (∀ q, (v7 : Value).ownBlock = some q → q ≠ z8) := Lib.hid (fun q hq => by have := own_hi HO7.out hq; omega)
      rw [← hw8, ← hz8]
      refine hK.out _ _ (HSS.out _ hb8) (fun hS8 => ?_)
      clear hK K hb8 hw8 hz8 hn8 hS7
      (try simp only [Act.put]); (try simp only [List.setIfInBounds_toArray]); (try simp only [List.set_cons_succ]); (try simp only [List.set_cons_zero])
      refine wpAnyH_ready (rs := [11]) (by kernel_rfl) (by simp) ?_
      refine (AllReadyH.cons rfl (fun K hK => ?_) AllReadyH.nil)
      refine step_app rfl (.tmp 21) (.tmp 23) 78 78 rfl w1.heap.size 86 ix (.agg #[.string ⟨#[]⟩, .slice none 0 0, .int .i64 0]) 3 48 Try.underlying78 hi hz0 hz1 hz2 rfl v7 k (rwC Rf.c (L.take k)) (by rfl) HO8.out (.slice (some ⟨z8, 0, none⟩) 1 1) 1 (Rf.c x) (by rfl) (src_block Try.underlying78 _ z8 ((Rf.c x)).toArray HY8_10.out rfl HONE.out) (by have := HL.out; have := HK.out; unfold maxLen; omega) (by have := HL.out; have := HK.out; omega) HB8.out.size ?_
      intro v9 w9x ho9 hg9 hn9 hk9
      have HO9 : Hid (w9x.ownsRow w1.heap.size 86 3 v9 (k + 1) (rwC Rf.c (L.take k) ++ Rf.c x)) := Lib.hid (by exact ho9)
      have hb9 : Below w1.heap.size w1 w9x := HB8.out.trans ((Fr.of_grown hg9).below (by intro y hy; exact own_lo HO8.out (Option.mem_toList.1 hy)) HB8.out.size)
      have HB9 := Lib.hid hb9
      refine hK.out _ _ (HSS.out _ hb9) (fun hS9 => ?_)
      clear hK K hb9 ho9 hg9 hn9 hk9 hS8
      (try simp only [Act.put]); (try simp only [List.setIfInBounds_toArray]); (try simp only [List.set_cons_succ]); (try simp only [List.set_cons_zero])
      refine wpAnyH_ready (rs := [18]) (by kernel_rfl) (by simp) ?_
      refine (AllReadyH.cons rfl (fun K hK => ?_) AllReadyH.nil)
      refine step_app rfl (.tmp 24) (.tmp 30) 78 78 rfl w1.heap.size 86 ix (.agg #[.string ⟨#[]⟩, .slice none 0 0, .int .i64 0]) 3 48 Try.underlying78 hi hz0 hz1 hz2 rfl v9 (k + 1) (rwC Rf.c (L.take k) ++ Rf.c x) (by rfl) HO9.out (.slice (if c = k then p else Option.map (fun x => x.add (k * 3)) p) (L.length - k) (c - k)) (L.length - k) (rwC Rf.c (L.drop k)) (by rfl) (src_rest H.out HB9.out HK.out) (by have := HL.out; have := HK.out; unfold maxLen; omega) (by have := HL.out; have := HK.out; omega) HB9.out.size ?_
      intro v10 w10x ho10 hg10 hn10 hk10
      have HO10 : Hid (w10x.ownsRow w1.heap.size 86 3 v10 (k + 1 + (L.length - k)) (rwC Rf.c (L.take k) ++ Rf.c x ++ rwC Rf.c (L.drop k))) := Lib.hid (by exact ho10)
      have hb10 : Below w1.heap.size w1 w10x := HB9.out.trans ((Fr.of_grown hg10).below (by intro y hy; exact own_lo HO9.out (Option.mem_toList.1 hy)) HB9.out.size)
      have HB10 := Lib.hid hb10
      refine hK.out _ _ (HSS.out _ hb10) (fun hS10 => ?_)
      clear hK K hb10 ho10 hg10 hn10 hk10 hS9
      (try simp only [Act.put]); (try simp only [List.setIfInBounds_toArray]); (try simp only [List.set_cons_succ]); (try simp only [List.set_cons_zero])
      refine wpAnyH_take (i := 19) (v := ?v31) rfl (by kernel_rfl) (by kernel_rfl) (by kernel_rfl) (fun _ _ _ h => h) (Or.inl ⟨by rfl, ?hy31⟩) (by assumption) ?rest31
      case hy31 => (intro _ hSw; (try dsimp only at hSw); go_simp; (try with_reducible rfl))
      (try simp only [Act.put]); (try simp only [List.setIfInBounds_toArray]); (try simp only [List.set_cons_succ]); (try simp only [List.set_cons_zero])
      refine wpAnyH_take (i := 20) (v := ?v32) rfl (by kernel_rfl) (by kernel_rfl) (by kernel_rfl) (fun _ _ _ h => h) (Or.inl ⟨by rfl, ?hy32⟩) (by assumption) ?rest32
      case hy32 => (intro _ hSw; (try dsimp only at hSw); go_simp; (try with_reducible rfl))
      (try simp only [Act.put]); (try simp only [List.setIfInBounds_toArray]); (try simp only [List.set_cons_succ]); (try simp only [List.set_cons_zero])
      refine wpAnyH_done (by kernel_rfl) ?_ _
      refine LastQ.start rfl ?_
      clear hS10 hHeld
      have d1 := (HSS.out _ HB10.out).1
      have f1 := (H.out.kept HB10.out).blk.free 1
      obtain ⟨p8, c8, hv8, -, -⟩ := own_slice HO10.out
      have HO8 := HO10
      subst hv8
      generalize (if c = k then p else Option.map (fun x => x.add (k * 3)) p) = pp
      go_wp2
      refine NoPanic.normal ?_
      (try go_wp2)
      have hle : (L.take k ++ x :: L.drop k).length = k + 1 + (L.length - k) := by rw [List.length_append, List.length_cons, List.length_take, List.length_drop]; have := HK.out; omega
      have ho8 := HO8.out
      have hcat : rwC Rf.c (L.take k) ++ Rf.c x ++ rwC Rf.c (L.drop k) = rwC Rf.c (L.take k ++ x :: L.drop k) := by rw [rwC_append, rwC_cons, List.append_assoc]
      rw [hcat] at ho8
      have ho9 : World.ownsRow w10x w1.heap.size 86 3 (.slice p8 (k + 1 + (L.length - k)) c8) (L.take k ++ x :: L.drop k).length (rwC Rf.c (L.take k ++ x :: L.drop k)) := by rw [hle]; exact ho8
      have hmem : ∀ r ∈ L.take k ++ x :: L.drop k, r = x ∨ r ∈ L := fun r hr => by
        rcases List.mem_append.1 hr with h1 | h1
        · exact .inr (List.mem_of_mem_take h1)
        · rcases List.mem_cons.1 h1 with h1 | h1
          · exact .inl h1
          · exact .inr (List.mem_of_mem_drop h1)
      have hset := H.out.setL HB10.out (L9 := L.take k ++ x :: L.drop k) (D' := D') ho9 (by rw [HF.out, ← H.out.eq, List.map_append, List.map_cons, List.map_take, List.map_drop]) (HC.out _) (fun r hr => by
        rcases hmem r hr with rfl | h1
        · exact own_keep HX.out HB10.out
        · exact own_keep (H.out.body r h1) HB10.out)
      have hst : RSt w1 _ g (.slice p L.length c) _ (x :: L) (L.take k ++ x :: L.drop k) := ⟨((Frp.of_below HB10.out _).set (p := ⟨g, 1, none⟩) (.inl rfl) (.slice p8 (k + 1 + (L.length - k)) c8)), fun y hy => by
        rcases hy with hy | hy | ⟨r, hr, hy⟩
        · exact .inl (.inl hy)
        · exact .inr (own_lo ho9 hy)
        · rcases hmem r hr with rfl | h1
          · exact .inl (.inr (.inr ⟨r, List.mem_cons_self, hy⟩))
          · exact .inl (.inr (.inr ⟨r, List.mem_cons_of_mem _ h1, hy⟩))⟩
      exact end0 rfl rfl ⟨rfl, _, hset, hst.box HB0.out⟩
    · (try simp only [List.getElem_toArray]); (try simp only [List.getElem_cons_succ]); (try simp only [List.getElem_cons_zero])
      go_simp
      obtain ⟨w11x, hw11⟩ : ∃ xq, xq = w6x.alloc (.cells #[.string x.f.n, x.v, .int .i64 (x.f.s : Int)] 86) := ⟨_, rfl⟩
      obtain ⟨z11, hz11⟩ : ∃ xq, xq = w6x.heap.size := ⟨_, rfl⟩
      have hn11 : Below w6x.heap.size w6x w11x := by rw [hw11]; exact below_alloc _ _
      have hb11 : Below w1.heap.size w1 w11x := below_and HB6.out hn11
      have HB11 := Lib.hid hb11
      have HY11_10 : Hid (Blk w11x z11 (Rf.c x) 86) := Lib.hid (by rw [hw11, hz11]; exact Blk.made w6x (Rf.c x) _)
      have HO11 := Lib.hid (own_fr HO6.out (Fr.of_below hn11 []) (fun _ _ => by simp))
      have HNE11_10 : Hid (∀ q, ((.slice (some ⟨z6, 0, none⟩) 0 0) : Value).ownBlock = some q → q ≠ z11) := Lib.hid (fun q hq => by have := own_hi HO6.out hq; omega)
      rw [← hw11, ← hz11]
      refine hK.out _ _ (HSS.out _ hb11) (fun hS11 => ?_)
      clear hK K hb11 hw11 hz11 hn11 hS6
      (try simp only [Act.put]); (try simp only [List.setIfInBounds_toArray]); (try simp only [List.set_cons_succ]); (try simp only [List.set_cons_zero])
      refine wpAnyH_ready (rs := [8]) (by kernel_rfl) (by simp) ?_
      refine (AllReadyH.cons rfl (fun K hK => ?_) AllReadyH.nil)
      refine step_app rfl (.tmp 14) (.tmp 20) 78 78 rfl w1.heap.size 86 ix (.agg #[.string ⟨#[]⟩, .slice none 0 0, .int .i64 0]) 3 48 Try.underlying78 hi hz0 hz1 hz2 rfl (.slice (some ⟨z6, 0, none⟩) 0 0) 0 [] (by rfl) HO11.out (.slice p k c) k (rwC Rf.c (L.take k)) (by rfl) (src_first H.out HB11.out HK.out) (by have := HL.out; have := HK.out; unfold maxLen; omega) (by have := HL.out; have := HK.out; omega) HB11.out.size ?_
      intro v12 w12x ho12 hg12 hn12 hk12
      have HO12 : Hid (w12x.ownsRow w1.heap.size 86 3 v12 k (rwC Rf.c (L.take k))) := Lib.hid (by simpa using ho12)
      have hb12 : Below w1.heap.size w1 w12x := HB11.out.trans ((Fr.of_grown hg12).below (by intro y hy; exact own_lo HO11.out (Option.mem_toList.1 hy)) HB11.out.size)
      have HB12 := Lib.hid hb12
      have HY12_10 := Lib.hid (HY11_10.out.fr (Fr.of_grown hg12) (fun hm => HNE11_10.out _ (Option.mem_toList.1 hm) rfl))
      have HNE12_10 : Hid (∀ q, v12.ownBlock = some q → q ≠ z11) := Lib.hid (fun q hq => by rcases hk12 q hq with h1 | h1; exact HNE11_10.out q h1; have := HY11_10.out.lt; omega)
      refine hK.out _ _ (HSS.out _ hb12) (fun hS12 => ?_)
      clear hK K hb12 ho12 hg12 hn12 hk12 hS11
      (try simp only [Act.put]); (try simp only [List.setIfInBounds_toArray]); (try simp only [List.set_cons_succ]); (try simp only [List.set_cons_zero])
      refine wpAnyH_ready (rs := [11]) (by kernel_rfl) (by simp) ?_
      refine (AllReadyH.cons rfl (fun K hK => ?_) AllReadyH.nil)
      refine step_app rfl (.tmp 21) (.tmp 23) 78 78 rfl w1.heap.size 86 ix (.agg #[.string ⟨#[]⟩, .slice none 0 0, .int .i64 0]) 3 48 Try.underlying78 hi hz0 hz1 hz2 rfl v12 k (rwC Rf.c (L.take k)) (by rfl) HO12.out (.slice (some ⟨z11, 0, none⟩) 1 1) 1 (Rf.c x) (by rfl) (src_block Try.underlying78 _ z11 ((Rf.c x)).toArray HY12_10.out rfl HONE.out) (by have := HL.out; have := HK.out; unfold maxLen; omega) (by have := HL.out; have := HK.out; omega) HB12.out.size ?_
      intro v13 w13x ho13 hg13 hn13 hk13
      have HO13 : Hid (w13x.ownsRow w1.heap.size 86 3 v13 (k + 1) (rwC Rf.c (L.take k) ++ Rf.c x)) := Lib.hid (by exact ho13)
      have hb13 : Below w1.heap.size w1 w13x := HB12.out.trans ((Fr.of_grown hg13).below (by intro y hy; exact own_lo HO12.out (Option.mem_toList.1 hy)) HB12.out.size)
      have HB13 := Lib.hid hb13
      refine hK.out _ _ (HSS.out _ hb13) (fun hS13 => ?_)
      clear hK K hb13 ho13 hg13 hn13 hk13 hS12
      (try simp only [Act.put]); (try simp only [List.setIfInBounds_toArray]); (try simp only [List.set_cons_succ]); (try simp only [List.set_cons_zero])
      refine wpAnyH_ready (rs := [18]) (by kernel_rfl) (by simp) ?_
      refine (AllReadyH.cons rfl (fun K hK => ?_) AllReadyH.nil)
      refine step_app rfl (.tmp 24) (.tmp 30) 78 78 rfl w1.heap.size 86 ix (.agg #[.string ⟨#[]⟩, .slice none 0 0, .int .i64 0]) 3 48 Try.underlying78 hi hz0 hz1 hz2 rfl v13 (k + 1) (rwC Rf.c (L.take k) ++ Rf.c x) (by rfl) HO13.out (.slice (if c = k then p else Option.map (fun x => x.add (k * 3)) p) (L.length - k) (c - k)) (L.length - k) (rwC Rf.c (L.drop k)) (by rfl) (src_rest H.out HB13.out HK.out) (by have := HL.out; have := HK.out; unfold maxLen; omega) (by have := HL.out; have := HK.out; omega) HB13.out.size ?_
      intro v14 w14x ho14 hg14 hn14 hk14
      have HO14 : Hid (w14x.ownsRow w1.heap.size 86 3 v14 (k + 1 + (L.length - k)) (rwC Rf.c (L.take k) ++ Rf.c x ++ rwC Rf.c (L.drop k))) := Lib.hid (by exact ho14)
      have hb14 : Below w1.heap.size w1 w14x := HB13.out.trans ((Fr.of_grown hg14).below (by intro y hy; exact own_lo HO13.out (Option.mem_toList.1 hy)) HB13.out.size)
      have HB14 := Lib.hid hb14
      refine hK.out _ _ (HSS.out _ hb14) (fun hS14 => ?_)
      clear hK K hb14 ho14 hg14 hn14 hk14 hS13
      (try simp only [Act.put]); (try simp only [List.setIfInBounds_toArray]); (try simp only [List.set_cons_succ]); (try simp only [List.set_cons_zero])
      refine wpAnyH_take (i := 19) (v := ?v33) rfl (by kernel_rfl) (by kernel_rfl) (by kernel_rfl) (fun _ _ _ h => h) (Or.inl ⟨by rfl, ?hy33⟩) (by assumption) ?rest33
      case hy33 => (intro _ hSw; (try dsimp only at hSw); go_simp; (try with_reducible rfl))
      (try simp only [Act.put]); (try simp only [List.setIfInBounds_toArray]); (try simp only [List.set_cons_succ]); (try simp only [List.set_cons_zero])
      refine wpAnyH_take (i := 20) (v := ?v34) rfl (by kernel_rfl) (by kernel_rfl) (by kernel_rfl) (fun _ _ _ h => h) (Or.inl ⟨by rfl, ?hy34⟩) (by assumption) ?rest34
      case hy34 => (intro _ hSw; (try dsimp only at hSw); go_simp; (try with_reducible rfl))
      (try simp only [Act.put]); (try simp only [List.setIfInBounds_toArray]); (try simp only [List.set_cons_succ]); (try simp only [List.set_cons_zero])
      refine wpAnyH_done (by kernel_rfl) ?_ _
      refine LastQ.start rfl ?_
      clear hS14 hHeld
      have d1 := (HSS.out _ HB14.out).1
      have f1 := (H.out.kept HB14.out).blk.free 1
      obtain ⟨p8, c8, hv8, -, -⟩ := own_slice HO14.out
      have HO8 := HO14
      subst hv8
      generalize (if c = k then p else Option.map (fun x => x.add (k * 3)) p) = pp
      go_wp2
      refine NoPanic.normal ?_
      (try go_wp2)
      have hle : (L.take k ++ x :: L.drop k).length = k + 1 + (L.length - k) := by rw [List.length_append, List.length_cons, List.length_take, List.length_drop]; have := HK.out; omega
      have ho8 := HO8.out
      have hcat : rwC Rf.c (L.take k) ++ Rf.c x ++ rwC Rf.c (L.drop k) = rwC Rf.c (L.take k ++ x :: L.drop k) := by rw [rwC_append, rwC_cons, List.append_assoc]
      rw [hcat] at ho8
      have ho9 : World.ownsRow w14x w1.heap.size 86 3 (.slice p8 (k + 1 + (L.length - k)) c8) (L.take k ++ x :: L.drop k).length (rwC Rf.c (L.take k ++ x :: L.drop k)) := by rw [hle]; exact ho8
      have hmem : ∀ r ∈ L.take k ++ x :: L.drop k, r = x ∨ r ∈ L := fun r hr => by
        rcases List.mem_append.1 hr with h1 | h1
        · exact .inr (List.mem_of_mem_take h1)
        · rcases List.mem_cons.1 h1 with h1 | h1
          · exact .inl h1
          · exact .inr (List.mem_of_mem_drop h1)
      have hset := H.out.setL HB14.out (L9 := L.take k ++ x :: L.drop k) (D' := D') ho9 (by rw [HF.out, ← H.out.eq, List.map_append, List.map_cons, List.map_take, List.map_drop]) (HC.out _) (fun r hr => by
        rcases hmem r hr with rfl | h1
        · exact own_keep HX.out HB14.out
        · exact own_keep (H.out.body r h1) HB14.out)
      have hst : RSt w1 _ g (.slice p L.length c) _ (x :: L) (L.take k ++ x :: L.drop k) := ⟨((Frp.of_below HB14.out _).set (p := ⟨g, 1, none⟩) (.inl rfl) (.slice p8 (k + 1 + (L.length - k)) c8)), fun y hy => by
        rcases hy with hy | hy | ⟨r, hr, hy⟩
        · exact .inl (.inl hy)
        · exact .inr (own_lo ho9 hy)
        · rcases hmem r hr with rfl | h1
          · exact .inl (.inr (.inr ⟨r, List.mem_cons_self, hy⟩))
          · exact .inl (.inr (.inr ⟨r, List.mem_cons_of_mem _ h1, hy⟩))⟩
      exact end0 rfl rfl ⟨rfl, _, hset, hst.box HB0.out⟩
  · (try simp only [List.getElem_toArray]); (try simp only [List.getElem_cons_succ]); (try simp only [List.getElem_cons_zero])
    go_simp
    obtain ⟨w15x, hw15⟩ : ∃ xq, xq = wd5.alloc (.cells #[.string x.f.n, x.v, .int .i64 (x.f.s : Int)] 86) := ⟨_, rfl⟩
    obtain ⟨z15, hz15⟩ : ∃ xq, xq = wd5.heap.size := ⟨_, rfl⟩
    have hn15 : Below wd5.heap.size wd5 w15x := by rw [hw15]; exact below_alloc _ _
    have hb15 : Below w1.heap.size w1 w15x := below_and HB5.out hn15
    have HB15 := Lib.hid hb15
    have HY15_10 : Hid (Blk w15x z15 (Rf.c x) 86) := Lib.hid (by rw [hw15, hz15]; exact Blk.made wd5 (Rf.c x) _)
    rw [← hw15, ← hz15]
    refine hK.out _ _ (HSS.out _ hb15) (fun hS15 => ?_)
    clear hK K hb15 hw15 hz15 hn15 hS5
    (try simp only [Act.put]); (try simp only [List.setIfInBounds_toArray]); (try simp only [List.set_cons_succ]); (try simp only [List.set_cons_zero])
    refine wpAnyH_ready (rs := [1]) (by kernel_rfl) (by simp) ?_
    refine (AllReadyH.cons rfl (fun K hK => ?_) AllReadyH.nil)
    (try simp only [List.getElem_toArray]); (try simp only [List.getElem_cons_succ]); (try simp only [List.getElem_cons_zero])
    go_simp
    obtain ⟨w16x, hw16⟩ : ∃ xq, xq = w15x.alloc (.cells #[] 86) := ⟨_, rfl⟩
    obtain ⟨z16, hz16⟩ : ∃ xq, xq = w15x.heap.size := ⟨_, rfl⟩
    have hn16 : Below w15x.heap.size w15x w16x := by rw [hw16]; exact below_alloc _ _
    have hb16 : Below w1.heap.size w1 w16x := below_and HB15.out hn16
    have HB16 := Lib.hid hb16
    have HY16_10 := Lib.hid (HY15_10.out.kept hn16)
    have HNE16_10 : Hid (∀ q, (Value.slice (some ⟨z16, 0, none⟩) 0 0).ownBlock = some q → q ≠ z15) := Lib.hid (fun q hq => by simp [Value.ownBlock] at hq; have := HY15_10.out.lt; omega)
    have HO16 : Hid (w16x.ownsRow w1.heap.size 86 3 (.slice (some ⟨z16, 0, none⟩) 0 0) 0 []) := Lib.hid (by rw [hw16, hz16]; exact World.ownsRow_made w15x #[] 0 HB15.out.size (by decide) rfl)
    rw [← hw16, ← hz16]
    refine hK.out _ _ (HSS.out _ hb16) (fun hS16 => ?_)
    clear hK K hb16 hw16 hz16 hn16 hS15
    (try simp only [Act.put]); (try simp only [List.setIfInBounds_toArray]); (try simp only [List.set_cons_succ]); (try simp only [List.set_cons_zero])
    refine wpAnyH_ready (rs := [8]) (by kernel_rfl) (by simp) ?_
    refine (AllReadyH.cons rfl (fun K hK => ?_) AllReadyH.nil)
    refine step_app rfl (.tmp 14) (.tmp 20) 78 78 rfl w1.heap.size 86 ix (.agg #[.string ⟨#[]⟩, .slice none 0 0, .int .i64 0]) 3 48 Try.underlying78 hi hz0 hz1 hz2 rfl (.slice (some ⟨z16, 0, none⟩) 0 0) 0 [] (by rfl) HO16.out (.slice p k c) k (rwC Rf.c (L.take k)) (by rfl) (src_first H.out HB16.out HK.out) (by have := HL.out; have := HK.out; unfold maxLen; omega) (by have := HL.out; have := HK.out; omega) HB16.out.size ?_
    intro v17 w17x ho17 hg17 hn17 hk17
    have HO17 : Hid (w17x.ownsRow w1.heap.size 86 3 v17 k (rwC Rf.c (L.take k))) := Lib.hid (by simpa using ho17)
    have hb17 : Below w1.heap.size w1 w17x := HB16.out.trans ((Fr.of_grown hg17).below (by intro y hy; exact own_lo HO16.out (Option.mem_toList.1 hy)) HB16.out.size)
    have HB17 := Lib.hid hb17
    have HY17_10 := Lib.hid (HY16_10.out.fr (Fr.of_grown hg17) (fun hm => HNE16_10.out _ (Option.mem_toList.1 hm) rfl))
    have HNE17_10 : Hid (∀ q, v17.ownBlock = some q → q ≠ z15) := Lib.hid (fun q hq => by rcases hk17 q hq with h1 | h1; exact HNE16_10.out q h1; have := HY16_10.out.lt; omega)
    refine hK.out _ _ (HSS.out _ hb17) (fun hS17 => ?_)
    clear hK K hb17 ho17 hg17 hn17 hk17 hS16
    (try simp only [Act.put]); (try simp only [List.setIfInBounds_toArray]); (try simp only [List.set_cons_succ]); (try simp only [List.set_cons_zero])
    refine wpAnyH_ready (rs := [11]) (by kernel_rfl) (by simp) ?_
    refine (AllReadyH.cons rfl (fun K hK => ?_) AllReadyH.nil)
    refine step_app rfl (.tmp 21) (.tmp 23) 78 78 rfl w1.heap.size 86 ix (.agg #[.string ⟨#[]⟩, .slice none 0 0, .int .i64 0]) 3 48 Try.underlying78 hi hz0 hz1 hz2 rfl v17 k (rwC Rf.c (L.take k)) (by rfl) HO17.out (.slice (some ⟨z15, 0, none⟩) 1 1) 1 (Rf.c x) (by rfl) (src_block Try.underlying78 _ z15 ((Rf.c x)).toArray HY17_10.out rfl HONE.out) (by have := HL.out; have := HK.out; unfold maxLen; omega) (by have := HL.out; have := HK.out; omega) HB17.out.size ?_
    intro v18 w18x ho18 hg18 hn18 hk18
    have HO18 : Hid (w18x.ownsRow w1.heap.size 86 3 v18 (k + 1) (rwC Rf.c (L.take k) ++ Rf.c x)) := Lib.hid (by exact ho18)
    have hb18 : Below w1.heap.size w1 w18x := HB17.out.trans ((Fr.of_grown hg18).below (by intro y hy; exact own_lo HO17.out (Option.mem_toList.1 hy)) HB17.out.size)
    have HB18 := Lib.hid hb18
    refine hK.out _ _ (HSS.out _ hb18) (fun hS18 => ?_)
    clear hK K hb18 ho18 hg18 hn18 hk18 hS17
    (try simp only [Act.put]); (try simp only [List.setIfInBounds_toArray]); (try simp only [List.set_cons_succ]); (try simp only [List.set_cons_zero])
    refine wpAnyH_ready (rs := [18]) (by kernel_rfl) (by simp) ?_
    refine (AllReadyH.cons rfl (fun K hK => ?_) AllReadyH.nil)
    refine step_app rfl (.tmp 24) (.tmp 30) 78 78 rfl w1.heap.size 86 ix (.agg #[.string ⟨#[]⟩, .slice none 0 0, .int .i64 0]) 3 48 Try.underlying78 hi hz0 hz1 hz2 rfl v18 (k + 1) (rwC Rf.c (L.take k) ++ Rf.c x) (by rfl) HO18.out (.slice (if c = k then p else Option.map (fun x => x.add (k * 3)) p) (L.length - k) (c - k)) (L.length - k) (rwC Rf.c (L.drop k)) (by rfl) (src_rest H.out HB18.out HK.out) (by have := HL.out; have := HK.out; unfold maxLen; omega) (by have := HL.out; have := HK.out; omega) HB18.out.size ?_
    intro v19 w19x ho19 hg19 hn19 hk19
    have HO19 : Hid (w19x.ownsRow w1.heap.size 86 3 v19 (k + 1 + (L.length - k)) (rwC Rf.c (L.take k) ++ Rf.c x ++ rwC Rf.c (L.drop k))) := Lib.hid (by exact ho19)
    have hb19 : Below w1.heap.size w1 w19x := HB18.out.trans ((Fr.of_grown hg19).below (by intro y hy; exact own_lo HO18.out (Option.mem_toList.1 hy)) HB18.out.size)
    have HB19 := Lib.hid hb19
    refine hK.out _ _ (HSS.out _ hb19) (fun hS19 => ?_)
    clear hK K hb19 ho19 hg19 hn19 hk19 hS18
    (try simp only [Act.put]); (try simp only [List.setIfInBounds_toArray]); (try simp only [List.set_cons_succ]); (try simp only [List.set_cons_zero])
    refine wpAnyH_take (i := 19) (v := ?v35) rfl (by kernel_rfl) (by kernel_rfl) (by kernel_rfl) (fun _ _ _ h => h) (Or.inl ⟨by rfl, ?hy35⟩) (by assumption) ?rest35
    case hy35 => (intro _ hSw; (try dsimp only at hSw); go_simp; (try with_reducible rfl))
    (try simp only [Act.put]); (try simp only [List.setIfInBounds_toArray]); (try simp only [List.set_cons_succ]); (try simp only [List.set_cons_zero])
    refine wpAnyH_take (i := 20) (v := ?v36) rfl (by kernel_rfl) (by kernel_rfl) (by kernel_rfl) (fun _ _ _ h => h) (Or.inl ⟨by rfl, ?hy36⟩) (by assumption) ?rest36
    case hy36 => (intro _ hSw; (try dsimp only at hSw); go_simp; (try with_reducible rfl))
    (try simp only [Act.put]); (try simp only [List.setIfInBounds_toArray]); (try simp only [List.set_cons_succ]); (try simp only [List.set_cons_zero])
    refine wpAnyH_done (by kernel_rfl) ?_ _
    refine LastQ.start rfl ?_
    clear hS19 hHeld
    have d1 := (HSS.out _ HB19.out).1
    have f1 := (H.out.kept HB19.out).blk.free 1
    obtain ⟨p8, c8, hv8, -, -⟩ := own_slice HO19.out
    have HO8 := HO19
    subst hv8
    generalize (if c = k then p else Option.map (fun x => x.add (k * 3)) p) = pp
    go_wp2
    refine NoPanic.normal ?_
    (try go_wp2)
    have hle : (L.take k ++ x :: L.drop k).length = k + 1 + (L.length - k) := by rw [List.length_append, List.length_cons, List.length_take, List.length_drop]; have := HK.out; omega
    have ho8 := HO8.out
    have hcat : rwC Rf.c (L.take k) ++ Rf.c x ++ rwC Rf.c (L.drop k) = rwC Rf.c (L.take k ++ x :: L.drop k) := by rw [rwC_append, rwC_cons, List.append_assoc]
    rw [hcat] at ho8
    have ho9 : World.ownsRow w19x w1.heap.size 86 3 (.slice p8 (k + 1 + (L.length - k)) c8) (L.take k ++ x :: L.drop k).length (rwC Rf.c (L.take k ++ x :: L.drop k)) := by rw [hle]; exact ho8
    have hmem : ∀ r ∈ L.take k ++ x :: L.drop k, r = x ∨ r ∈ L := fun r hr => by
      rcases List.mem_append.1 hr with h1 | h1
      · exact .inr (List.mem_of_mem_take h1)
      · rcases List.mem_cons.1 h1 with h1 | h1
        · exact .inl h1
        · exact .inr (List.mem_of_mem_drop h1)
    have hset := H.out.setL HB19.out (L9 := L.take k ++ x :: L.drop k) (D' := D') ho9 (by rw [HF.out, ← H.out.eq, List.map_append, List.map_cons, List.map_take, List.map_drop]) (HC.out _) (fun r hr => by
      rcases hmem r hr with rfl | h1
      · exact own_keep HX.out HB19.out
      · exact own_keep (H.out.body r h1) HB19.out)
    have hst : RSt w1 _ g (.slice p L.length c) _ (x :: L) (L.take k ++ x :: L.drop k) := ⟨((Frp.of_below HB19.out _).set (p := ⟨g, 1, none⟩) (.inl rfl) (.slice p8 (k + 1 + (L.length - k)) c8)), fun y hy => by
      rcases hy with hy | hy | ⟨r, hr, hy⟩
      · exact .inl (.inl hy)
      · exact .inr (own_lo ho9 hy)
      · rcases hmem r hr with rfl | h1
        · exact .inl (.inr (.inr ⟨r, List.mem_cons_self, hy⟩))
        · exact .inl (.inr (.inr ⟨r, List.mem_cons_of_mem _ h1, hy⟩))⟩
    exact end0 rfl rfl ⟨rfl, _, hset, hst.box HB0.out⟩
end Go.Proofs.Ytgcemddobcjpnaa
namespace Go.Proofs.Ytgcemddobcjpnaa
open Go.RowKit

/-- the room that every append here asks for -/
def Room (n : Nat) : Prop := n ≤ 200000000000000
theorem Room.h63 {n m : Nat} (h : Room n) (hm : m ≤ 1000000) : n + m ≤ maxLen := by unfold Room at h; unfold maxLen; omega
theorem Room.bytes {n m : Nat} (h : Room n) (hm : m ≤ 1000000) : (n + m + (n + m) / 4 + 256) * 1 ≤ 281474976710656 := by unfold Room at h; omega
theorem Room.h630 {n : Nat} (h : Room n) : 0 + n ≤ maxLen := by unfold Room at h; unfold maxLen; omega
theorem Room.bytes0 {n : Nat} (h : Room n) : (0 + n + (0 + n) / 4 + 256) * 1 ≤ 281474976710656 := by unfold Room at h; omega

set_option maxHeartbeats 400000 in
theorem clone_any (v : Value) (l : List UInt8) (w : World) (h1 : Rd w v l) (hl : Room l.length) :
    Calls Try.prog 43 #[v] w fun e w' => ∃ v', e = .returned v' ∧ Fresh w.heap.size w' v' l ∧ Below w.heap.size w w' := by
  obtain ⟨p, c, rfl, hc, hm, hp⟩ : ∃ p c, v = .slice p l.length c ∧ l.length ≤ c ∧ c ≤ maxLen ∧ (p = none → l.length = 0 ∧ c = 0) := by
    obtain ⟨p, c, h⟩ := h1
    exact ⟨p, c, h.1, h.2.1, h.2.2.1, h.2.2.2.2.2.1⟩
  cases p with
  | none =>
    obtain ⟨h0, rfl⟩ := hp rfl
    have hl0 : l = [] := List.eq_nil_of_length_eq_zero h0
    subst hl0
    go_enter Try.func43, Try.ntmps43
    have hq : ∀ w : World, (binOp .eql 29 (.slice none 0 0) (.slice none 0 0)).run Try.prog w = .ok (.bool true) w := fun w => by kernel_rfl
    go_wp2
    go_ret
    exact ⟨_, rfl, World.ownsRow_nil _ _ _ _, Below.refl _ _⟩
  | some a =>
    obtain ⟨i0, hi, hz0, hz1, hz2⟩ := info_parts Try.uinfo
    have hq : ∀ w : World, (binOp .eql 29 (.slice (some a) l.length c) (.slice none 0 0)).run Try.prog w = .ok (.bool false) w := fun w => Lib.run_eql_slice_nil w _ _ (some a) l.length c 0 0 Try.underlying29
    go_enter Try.func43, Try.ntmps43
    have hsrc : Src Try.prog 1 29 (.slice (some a) l.length c) l.length (l.map B) (w.alloc (.cells #[] 5)) := (h1.below ((Below.refl _ _).alloc (Nat.le_refl _) _)).src Try.underlying29
    have hown : (w.alloc (.cells #[] 5)).ownsRow w.heap.size 5 1 (.slice (some ⟨w.heap.size, 0, none⟩) 0 0) 0 [] := World.ownsRow_lit w #[] 0 (Nat.le_refl _) (by simp [maxLen]) rfl
    have HS := Lib.hid hsrc
    have HO := Lib.hid hown
    clear hsrc hown h1
    go_wp2_with (at_builtin; refine wpList_app _ rfl _ _ 29 29 rfl w.heap.size 5 i0 (.int .u8 0) 1 1 Try.underlying29 hi hz0 hz1 hz2 rfl _ 0 [] rfl HO.out _ l.length (l.map B) rfl HS.out hl.h630 hl.bytes0 (by simp) ?_)
    intro v' w' hown' hgrow _
    have hb : Below w.heap.size w w' := below_grown ((Below.refl _ _).alloc (Nat.le_refl _) _) (by simp) HO.out hgrow
    have HB := Lib.hid hb
    have HN := Lib.hid hown'
    clear hb hown' hgrow
    go_wp2
    go_ret
    exact ⟨_, rfl, HN.out, HB.out⟩
theorem own_none (w : World) : (w.alloc (.cells #[] 5)).ownsRow w.heap.size 5 1 (.slice (some ⟨w.heap.size, 0, none⟩) 0 0) 0 [] := World.ownsRow_lit w #[] 0 (Nat.le_refl _) (by simp [maxLen]) rfl
theorem Rd.lit0 {w : World} {v : Value} {l : List UInt8} (h : Rd w v l) : Src Try.prog 1 29 v l.length (l.map B) (w.alloc (.cells #[] 5)) := (h.below ((Below.refl _ _).alloc (Nat.le_refl _) _)).src Try.underlying29
theorem fresh_zero {base : Nat} {w : World} {v : Value} {l : List UInt8} (h : w.ownsRow base 5 1 v (0 + l.length) ([] ++ l.map B)) : Fresh base w v l := by
  unfold Fresh; simpa using h

end Go.Proofs.Ytgcemddobcjpnaa
namespace Go.Proofs.Ytgcemddobcjpnaa
open Go.RowKit

section
variable {w : World} {g : Nat} {vF : Value} {D : Dk} {L : List Rf} {s : ByteArray}
theorem RDk.get_some (h : RDk w g vF D L) {r : Rf} (hp : kfnd Rf.key L s.data.toList = some r) : D.get s = some r.f := by unfold Dk.get; rw [h.find, hp]; rfl
theorem RDk.get_none (h : RDk w g vF D L) (hp : kfnd Rf.key L s.data.toList = none) : D.get s = none := by unfold Dk.get; rw [h.find, hp]; rfl
theorem place_yes (h : RDk w g vF D L) (hr : KRise Fl.key D.F) {r : Rf} (hp : kfnd Rf.key L s.data.toList = some r) :
    Calls Try.prog 64 #[ptr g, .string s] w fun e w' => e = .returned (.tuple #[.int .i64 (kpl Rf.key L s.data.toList : Int), .bool true]) ∧ w = w' := by
  have := rplace_any g vF D L s w h hr
  rw [hp] at this
  exact this
theorem place_no (h : RDk w g vF D L) (hr : KRise Fl.key D.F) (hp : kfnd Rf.key L s.data.toList = none) :
    Calls Try.prog 64 #[ptr g, .string s] w fun e w' => e = .returned (.tuple #[.int .i64 (kpl Rf.key L s.data.toList : Int), .bool false]) ∧ w = w' := by
  have := rplace_any g vF D L s w h hr
  rw [hp] at this
  exact this
theorem rask0 (l : List ByteArray) (v : Value) (h : RDk w g vF D L) (hv : Row w v 1 l.length (l.map Value.string)) (hl : ∀ s ∈ l, s.size ≤ maxLen) (ha : D.ask l = 0) :
    Calls Try.prog 63 #[ptr g, v] w fun e w' => e = .returned (.int .i64 0) ∧ w = w' :=
  (rasked_any g vF D L l v w h hv hl).mono fun _ _ ⟨h1, h2⟩ => ⟨by rw [h1, ha], h2⟩
end
theorem row1r (w : World) (s : ByteArray) (t : TypeId) : Row (w.alloc (.cells #[.string s] t)) (.slice (some ⟨w.heap.size, 0, none⟩) 1 1) 1 [s].length ([s].map Value.string) :=
  ⟨_, 1, rfl, Nat.le_refl _, by simp [maxLen], by simp, by simp [Value.oneCell'], by simp, .inr ⟨w.heap.size, 0, rfl, fun j u hj => by
    match j, hj with
    | 0, hj =>
      simp at hj
      subst hj
      exact (Blk.made w [.string s] t).cell (j := 0) rfl
    | j + 1, hj => simp at hj⟩⟩

theorem info_strr : (Try.prog.info? 9).map (fun i => (i.zero, i.size, i.bytes)) = some (some (.string ⟨#[]⟩), 1, 16) := by kernel_rfl

/-! New -/
set_option maxRecDepth 100000 in
set_option maxHeartbeats 1000000 in
theorem rnew_ok (r : Int) (w : World) (h1 : 0 ≤ r) (h2 : r ≤ 1073741824) :
    Calls Try.prog 23 #[.int .i64 r] w fun e w' => ∃ g, e = .returned (.tuple #[ptr g, .int .i64 0]) ∧ w.heap.size ≤ g ∧ RDk w' g (.slice none 0 0) ⟨r, [], false, 0, false, 0⟩ [] ∧ Below w.heap.size w w' := by
  have d1 : decide (r < 0) = false := by simp; omega
  have d2 : decide (1073741824 < r) = false := by simp; omega
  clear h1 h2
  go_enter Try.func23, Try.ntmps23
  go_wp2
  go_ret2
  exact ⟨w.heap.size, rfl, Nat.le_refl _, ⟨Blk.made w (rdC (.slice none 0 0) ⟨r, [], false, 0, false, 0⟩) 80, World.ownsRow_nil _ _ _ _, rfl, by simp⟩, below_alloc w _⟩
set_option maxRecDepth 100000 in
set_option maxHeartbeats 1000000 in
theorem rnew_bad (r : Int) (w : World) (h : r < 0 ∨ 1073741824 < r) :
    Calls Try.prog 23 #[.int .i64 r] w fun e w' => e = .returned (.tuple #[.pointer none, .int .i64 2]) ∧ w = w' := by
  by_cases h0 : r < 0
  · have d1 : decide (r < 0) = true := by simp; omega
    clear h h0
    go_enter Try.func23, Try.ntmps23
    go_wp2
    go_ret2
    exact ⟨rfl, rfl⟩
  · have d1 : decide (r < 0) = false := by simp; omega
    have d2 : decide (1073741824 < r) = true := by simp; omega
    clear h h0
    go_enter Try.func23, Try.ntmps23
    go_wp2
    go_ret2
    exact ⟨rfl, rfl⟩

section
variable (g : Nat) (vF : Value) (D : Dk) (L : List Rf) (w : World) (h : RDk w g vF D L)
include h
set_option maxRecDepth 100000 in
set_option maxHeartbeats 1000000 in
theorem rfree_any : Calls Try.prog 52 #[ptr g] w fun e w' => e = .returned (.int .i64 0) ∧ RdTo w w' g vF L D.free := by
  have H := Lib.hid h
  have c2 := h.blk.cell (j := 2) rfl
  have c3 := (h.blk.set 2 (.bool false)).cell (j := 3) rfl
  have f2 := h.blk.free 2
  have f3 := (h.blk.set 2 (.bool false)).free 3
  clear h
  go_enter Try.func52, Try.ntmps52
  go_wp2
  go_ret
  have hf : Frp (fun k => k = g) w ((w.setCell ⟨g, 2, none⟩ (.bool false)).setCell ⟨g, 3, none⟩ (.int .i64 0)) := ((Frp.refl (fun k => k = g) w).set (p := ⟨g, 2, none⟩) rfl _).set (p := ⟨g, 3, none⟩) rfl _
  exact ⟨rfl, vF, L, H.out.flds (D' := D.free) rfl hf ((H.out.blk.set 2 _).set 3 _), ⟨hf.mono (fun k hk => .inl hk), fun k hk => .inl hk⟩⟩
set_option maxRecDepth 100000 in
set_option maxHeartbeats 1000000 in
theorem rfuse_any (n : Int) : Calls Try.prog 51 #[ptr g, .int .i64 n] w fun e w' => e = .returned (.int .i64 (D.setFuse n).1) ∧ RdTo w w' g vF L (D.setFuse n).2 := by
  have H := Lib.hid h
  have c4 := h.blk.cell (j := 4) rfl
  cases hoff : D.off
  · rw [hoff] at c4
    by_cases hn : n < 0
    · have HF : Hid (D.setFuse n = (2, D)) := Lib.hid (by unfold Dk.setFuse; rw [if_neg (by rw [hoff]; simp), if_pos hn])
      clear h hoff
      go_enter Try.func51, Try.ntmps51
      go_wp2
      go_ret
      rw [HF.out]
      exact ⟨rfl, RdTo.same H.out (Below.refl _ _)⟩
    · have HF : Hid (D.setFuse n = (0, { D with fused := true, fuse := n })) := Lib.hid (by unfold Dk.setFuse; rw [if_neg (by rw [hoff]; simp), if_neg hn])
      have c2 := h.blk.cell (j := 2) rfl
      have c3 := (h.blk.set 2 (.bool true)).cell (j := 3) rfl
      have f2 := h.blk.free 2
      have f3 := (h.blk.set 2 (.bool true)).free 3
      clear h hoff
      go_enter Try.func51, Try.ntmps51
      go_wp2
      go_ret
      rw [HF.out]
      have hf : Frp (fun k => k = g) w ((w.setCell ⟨g, 2, none⟩ (.bool true)).setCell ⟨g, 3, none⟩ (.int .i64 n)) := ((Frp.refl (fun k => k = g) w).set (p := ⟨g, 2, none⟩) rfl _).set (p := ⟨g, 3, none⟩) rfl _
      exact ⟨rfl, vF, L, H.out.flds (D' := { D with fused := true, fuse := n }) rfl hf ((H.out.blk.set 2 _).set 3 _), ⟨hf.mono (fun k hk => .inl hk), fun k hk => .inl hk⟩⟩
  · rw [hoff] at c4
    have HF : Hid (D.setFuse n = (10, D)) := Lib.hid (by unfold Dk.setFuse; rw [if_pos hoff])
    clear h hoff
    go_enter Try.func51, Try.ntmps51
    go_wp2
    go_ret
    rw [HF.out]
    exact ⟨rfl, RdTo.same H.out (Below.refl _ _)⟩

/-! left -/
set_option maxRecDepth 100000 in
set_option maxHeartbeats 2000000 in
theorem rleft_any (M : Nat) (N : Int) (hi : DkI D M N) : Calls Try.prog 67 #[ptr g] w fun e w' => e = .returned (.int .i64 D.left) ∧ w = w' := by
  have H := Lib.hid h
  obtain ⟨p, c, rfl, hc, hm, -⟩ := h.shape
  have c0 := h.blk.cell (j := 0) rfl
  have c1 := h.blk.cell (j := 1) rfl
  have hml : maxLen ≤ 9223372036854775807 := by decide
  have hll : L.length ≤ 9223372036854775807 := by omega
  have HFI := Lib.hid hi.fits
  have hroom := hi.room
  have HTK : Hid (∀ k, k ≤ L.length → 0 ≤ ksum lenF ((L.take k).map Rf.f) ∧ ksum lenF ((L.take k).map Rf.f) ≤ Dk.bytes D.F) := Lib.hid (fun k hk => by
    refine ⟨ksum_nonneg (lenF_nn _), ?_⟩
    rw [bytes_sum, ← h.eq]
    conv => rhs; rw [← List.take_append_drop k L, List.map_append]
    have : ∀ A B : List Fl, ksum lenF (A ++ B) = ksum lenF A + ksum lenF B := fun A B => by unfold ksum; rw [List.map_append, List.sum_append]
    rw [this]
    have := ksum_nonneg (lenF_nn ((L.drop k).map Rf.f))
    omega)
  have HALL : Hid (ksum lenF (L.map Rf.f) = Dk.bytes D.F) := Lib.hid (by rw [h.eq, bytes_sum])
  clear h hi hml hm hc
  go_enter Try.func67, Try.ntmps67
  go_wp2
  go_loop [3, 4] (fun n i => ∃ k : Nat, k ≤ L.length ∧ i = .int .i64 (k : Int) ∧ n = .int .i64 (D.room - ksum lenF ((L.take k).map Rf.f))) (fun _ i => L.length - (intOf i).toNat)
  case atStart => exact ⟨0, Nat.zero_le _, rfl, by simp [ksum]⟩
  case round =>
    obtain ⟨k, hk, rfl, rfl⟩ := hrel
    have hb := HTK.out k hk
    by_cases hlt : k < L.length
    · obtain ⟨q, c', e, hc', -, e1, -⟩ := H.out.at hlt
      simp only [Value.slice.injEq] at e
      obtain ⟨rfl, -, rfl⟩ := e
      obtain ⟨pv, pc, hv, hpc, -⟩ := own_slice (H.out.body L[k] (List.getElem_mem hlt))
      have hstep : ksum lenF ((L.take (k + 1)).map Rf.f) = ksum lenF ((L.take k).map Rf.f) + (L[k].f.b.length : Int) := by
        rw [List.take_succ_eq_append_getElem hlt, List.map_append]
        unfold ksum
        rw [List.map_append, List.sum_append]
        simp [lenF]
      have hb2 := (HTK.out (k + 1) hlt).2
      rw [hstep] at hb2
      rw [hv] at e1
      obtain ⟨m, hm⟩ : ∃ m, m = L[k].f.b.length := ⟨_, rfl⟩
      rw [← hm] at e1 hb2 hstep hpc
      obtain ⟨z, hz⟩ : ∃ z, z = ksum lenF ((L.take k).map Rf.f) := ⟨_, rfl⟩
      rw [← hz] at hb hb2 hstep ⊢
      have HS := Lib.hid hstep
      have i1 : (k : Int) < (L.length : Int) := by omega
      have b0 : (0 : Int) ≤ (k : Int) := by omega
      have b1 : (0 : Int) ≤ z := hb.1
      have b2 : z + (m : Int) ≤ D.room := by have := HFI.out; omega
      have b3 : (0 : Int) ≤ (m : Int) := by omega
      clear hv hm hz hb hb2 hstep
      go_wp2
      go_round
      case rel => exact ⟨k + 1, hlt, by go_num, by rw [HS.out]; go_num⟩
      case measure => simp [intOf]; omega
    · obtain rfl : k = L.length := by omega
      rw [List.take_length]
      have HE := Lib.hid HALL.out
      go_wp2
      go_ret
      exact ⟨ret_int (by rw [HE.out]; rfl), rfl⟩
set_option maxRecDepth 100000 in
set_option maxHeartbeats 1000000 in
theorem rleftP_any (M : Nat) (N : Int) (hi : DkI D M N) : Calls Try.prog 58 #[ptr g] w fun e w' => e = .returned (.int .i64 D.leftP) ∧ w = w' := by
  have H := Lib.hid h
  have HI := Lib.hid hi
  have c4 := h.blk.cell (j := 4) rfl
  cases hoff : D.off
  · rw [hoff] at c4
    have HF : Hid (D.leftP = D.left) := Lib.hid (by unfold Dk.leftP; rw [if_neg (by rw [hoff]; simp)])
    clear h hoff hi
    go_enter Try.func58, Try.ntmps58
    go_wp2_with (go_at_call 67; refine (rleft_any g vF D L _ H.out M N HI.out).mono ?_; rintro e w4 ⟨rfl, rfl⟩)
    go_ret
    rw [HF.out]
    exact ⟨rfl, rfl⟩
  · rw [hoff] at c4
    have HF : Hid (D.leftP = 0) := Lib.hid (by unfold Dk.leftP; rw [if_pos hoff])
    clear h hoff hi
    go_enter Try.func58, Try.ntmps58
    go_wp2
    go_ret
    rw [HF.out]
    exact ⟨rfl, rfl⟩

/-! Names -/
set_option maxRecDepth 100000 in
set_option maxHeartbeats 2000000 in
theorem rnames_any (hl : L.length ≤ 100000) : Calls Try.prog 57 #[ptr g] w fun e w' => ∃ v, e = .returned v ∧ w'.ownsRow w.heap.size 9 1 v D.names.length (D.names.map Value.string) ∧ Below w.heap.size w w' := by
  obtain ⟨ix, hi, hz0, hz1, hz2⟩ := info_parts info_strr
  have H := Lib.hid h
  have HL := Lib.hid hl
  have c4 := h.blk.cell (j := 4) rfl
  obtain ⟨p, c, rfl, hc, hm, -⟩ := h.shape
  have c1 := h.blk.cell (j := 1) rfl
  have hml : maxLen ≤ 9223372036854775807 := by decide
  have hll : L.length ≤ 9223372036854775807 := by omega
  cases hoff : D.off
  · rw [hoff] at c4
    have HF : Hid (D.names = L.map fun r => r.f.n) := Lib.hid (by unfold Dk.names; rw [if_neg (by rw [hoff]; simp), ← h.eq, List.map_map]; rfl)
    clear h hoff hml hm hc hl
    go_enter Try.func57, Try.ntmps57
    go_wp2
    have HC4 := Lib.hid c4
    have HC1 := Lib.hid c1
    go_loopw [3, 4] (fun o i wr => ∃ k : Nat, k ≤ L.length ∧ i = .int .i64 (k : Int) ∧ Hid (wr.ownsRow w.heap.size 9 1 o k ((L.take k).map fun r : Rf => Value.string r.f.n)) ∧ Hid (Below w.heap.size w wr)) (fun _ i _ => L.length - (intOf i).toNat)
    case atStart => exact ⟨0, Nat.zero_le _, rfl, Lib.hid (World.ownsRow_nil _ _ _ _), Lib.hid (Below.refl _ _)⟩
    case round =>
      obtain ⟨k, hk, rfl, HO, HB⟩ := hrel
      have c4 := cell_kept HC4.out HB.out
      have c1 := cell_kept HC1.out HB.out
      by_cases hlt : k < L.length
      · obtain ⟨q, c', e, hc', e0, -, -⟩ := (H.out.kept HB.out).at hlt
        simp only [Value.slice.injEq] at e
        obtain ⟨rfl, -, rfl⟩ := e
        obtain ⟨nm, hnm⟩ : ∃ nm, nm = L[k].f.n := ⟨_, rfl⟩
        rw [← hnm] at e0
        have i1 : (k : Int) < (L.length : Int) := by omega
        have b0 : (0 : Int) ≤ (k : Int) := by omega
        have HT : Hid ((L.take (k + 1)).map (fun r : Rf => Value.string r.f.n) = (L.take k).map (fun r : Rf => Value.string r.f.n) ++ [.string nm]) := Lib.hid (by rw [List.take_succ_eq_append_getElem hlt, List.map_append, hnm]; rfl)
        have HOA := Lib.hid (own_keep HO.out (below_alloc wr (.cells #[.string nm] 9)))
        have HBS := Lib.hid HB.out.size
        clear hnm
        go_wp2_with (at_builtin; go_loud (refine wpList_app5 rfl _ _ 40 40 rfl w.heap.size 9 ix (.string ⟨#[]⟩) 1 16 Try.underlying40 hi hz0 hz1 hz2 rfl _ k ((L.take k).map fun r : Rf => Value.string r.f.n) rfl HOA.out _ 1 _ rfl (src_block Try.underlying40 _ _ #[_] (heap_alloc_new wr _) rfl (by simp [Value.oneCell'])) (by have := HL.out; unfold maxLen; omega) (by have := HL.out; omega) (by have := HBS.out; simp; omega) ?_; intro o4 w4 ho4 hg4 hn4; have HO4 := Lib.hid ho4; have HB4 : Hid (Below w.heap.size w w4) := Lib.hid ((below_and HB.out (below_alloc wr _)).trans ((Fr.of_grown hg4).below (by intro y hy; exact own_lo HO.out (Option.mem_toList.1 hy)) (by have := HBS.out; simp; omega))); clear ho4 hg4 hn4))
        go_roundw
        case rel => exact ⟨k + 1, hlt, by go_num, Lib.hid (by rw [HT.out]; exact HO4.out), HB4⟩
        case measure => simp [intOf]; omega
      · obtain rfl : k = L.length := by omega
        have HE : Hid (wr.ownsRow w.heap.size 9 1 _ L.length (L.map fun r : Rf => Value.string r.f.n)) := Lib.hid (by have := HO.out; rwa [List.take_length] at this)
        go_wp2
        go_ret
        rw [HF.out]
        exact ⟨_, rfl, by rw [List.length_map, List.map_map]; exact HE.out, HB.out⟩
  · rw [hoff] at c4
    have HF : Hid (D.names = []) := Lib.hid (by unfold Dk.names; rw [if_pos hoff])
    clear h hoff hml hm hc hl
    by_cases h0 : 0 < L.length
    · have i0 : (0 : Int) < (L.length : Int) := by omega
      go_enter Try.func57, Try.ntmps57
      go_wp2
      go_loop [3, 4] (fun o i => o = .slice none 0 0 ∧ i = .int .i64 0) (fun _ _ => 0)
      case atStart => exact ⟨rfl, rfl⟩
      case round =>
        obtain ⟨rfl, rfl⟩ := hrel
        go_wp2
        go_ret
        rw [HF.out]
        exact ⟨_, rfl, World.ownsRow_nil _ _ _ _, Below.refl _ _⟩
    · have i0 : ¬ (0 : Int) < (L.length : Int) := by omega
      go_enter Try.func57, Try.ntmps57
      go_wp2
      go_loop [3, 4] (fun o i => o = .slice none 0 0 ∧ i = .int .i64 0) (fun _ _ => 0)
      case atStart => exact ⟨rfl, rfl⟩
      case round =>
        obtain ⟨rfl, rfl⟩ := hrel
        go_wp2
        go_ret
        rw [HF.out]
        exact ⟨_, rfl, World.ownsRow_nil _ _ _ _, Below.refl _ _⟩

/-! Synced, Read -/
variable (s : ByteArray) (hs : s.size ≤ maxLen) (hr : KRise Fl.key D.F)
include hs hr
set_option maxRecDepth 100000 in
set_option maxHeartbeats 1000000 in
theorem rsynced_any : Calls Try.prog 55 #[ptr g, .string s] w fun e w' => e = .returned (.tuple #[.int .i64 (D.synced s).2, .int .i64 (D.synced s).1]) ∧ Below w.heap.size w w' := by
  have hb0 := below_alloc w (.cells #[.string s] 9)
  have HB0 := Lib.hid hb0
  have h0 := h.kept hb0
  have H0 := Lib.hid h0
  by_cases ha : D.ask [s] = 0
  · have HA := Lib.hid (rask0 [s] _ h0 (row1r w s 9) (by simpa using hs) ha)
    cases hp : kfnd Rf.key L s.data.toList with
    | none =>
      have HF : Hid (D.synced s = (6, 0)) := Lib.hid (by unfold Dk.synced; rw [if_neg (by rw [ha]; simp), h.get_none hp])
      have HP := Lib.hid (place_no h0 hr hp)
      clear h h0 hs hr ha hp hb0
      go_enter Try.func55, Try.ntmps55
      go_wp2_with (first
        | (go_at_call 63; refine HA.out.mono ?_; rintro e w3 ⟨rfl, rfl⟩)
        | (go_at_call 64; refine HP.out.mono ?_; rintro e w3 ⟨rfl, rfl⟩))
      go_ret2
      rw [HF.out]
      exact ⟨rfl, HB0.out⟩
    | some r =>
      have HF : Hid (D.synced s = (0, (r.f.s : Int))) := Lib.hid (by unfold Dk.synced; rw [if_neg (by rw [ha]; simp), h.get_some hp])
      have HP := Lib.hid (place_yes h0 hr hp)
      obtain ⟨hk, he⟩ := kfnd_place (h.rise hr) hp
      obtain ⟨k, hkk⟩ : ∃ k, k = kpl Rf.key L s.data.toList := ⟨_, rfl⟩
      simp only [← hkk] at hk he HP
      obtain ⟨q, c, rfl, hc, -, -, e2⟩ := h0.at hk
      rw [he] at e2
      have c1 := h0.blk.cell (j := 1) rfl
      have b0 : (0 : Int) ≤ (k : Int) := by omega
      have i1 : (k : Int) < (L.length : Int) := by omega
      clear h h0 hs hr ha hp hb0 he hkk
      go_enter Try.func55, Try.ntmps55
      go_wp2_with (first
        | (go_at_call 63; refine HA.out.mono ?_; rintro e w3 ⟨rfl, rfl⟩)
        | (go_at_call 64; refine HP.out.mono ?_; rintro e w3 ⟨rfl, rfl⟩))
      go_ret2
      rw [HF.out]
      exact ⟨rfl, HB0.out⟩
  · have HA := Lib.hid (rasked_any g vF D L [s] _ _ h0 (row1r w s 9) (by simpa using hs))
    have HF : Hid (D.synced s = (D.ask [s], 0)) := Lib.hid (by unfold Dk.synced; rw [if_pos ha])
    obtain ⟨q, hq⟩ : ∃ q, q = D.ask [s] := ⟨_, rfl⟩
    rw [← hq] at ha HF HA
    have q0 : (q != 0) = true := by simpa using ha
    clear h h0 hs hr ha hq hb0
    go_enter Try.func55, Try.ntmps55
    go_wp2_with (go_at_call 63; refine HA.out.mono ?_; rintro e w3 ⟨rfl, rfl⟩)
    go_ret2
    rw [HF.out]
    exact ⟨rfl, HB0.out⟩
set_option maxRecDepth 100000 in
set_option maxHeartbeats 1000000 in
theorem rread_any (M : Nat) (N : Int) (hi : DkI D M N) : Calls Try.prog 56 #[ptr g, .string s] w fun e w' => ∃ v, e = .returned (.tuple #[v, .int .i64 (D.read s).1]) ∧ Fresh w.heap.size w' v (D.read s).2 ∧ Below w.heap.size w w' := by
  have hb0 := below_alloc w (.cells #[.string s] 9)
  have HB0 := Lib.hid hb0
  have h0 := h.kept hb0
  have H0 := Lib.hid h0
  by_cases ha : D.ask [s] = 0
  · have HA := Lib.hid (rask0 [s] _ h0 (row1r w s 9) (by simpa using hs) ha)
    cases hp : kfnd Rf.key L s.data.toList with
    | none =>
      have HF : Hid (D.read s = (6, [])) := Lib.hid (by unfold Dk.read; rw [if_neg (by rw [ha]; simp), h.get_none hp])
      have HP := Lib.hid (place_no h0 hr hp)
      clear h h0 hs hr ha hp hb0 hi
      go_enter Try.func56, Try.ntmps56
      go_wp2_with (first
        | (go_at_call 63; refine HA.out.mono ?_; rintro e w3 ⟨rfl, rfl⟩)
        | (go_at_call 64; refine HP.out.mono ?_; rintro e w3 ⟨rfl, rfl⟩))
      go_ret2
      rw [HF.out]
      exact ⟨_, rfl, World.ownsRow_nil _ _ _ _, HB0.out⟩
    | some r =>
      obtain ⟨ix, hix, hz0, hz1, hz2⟩ := info_parts Try.uinfo
      have HF : Hid (D.read s = (0, r.f.b)) := Lib.hid (by unfold Dk.read; rw [if_neg (by rw [ha]; simp), h.get_some hp])
      have HP := Lib.hid (place_yes h0 hr hp)
      have hmem := (kfnd_mem hp).1
      have HRM : Hid (r.f.b.length ≤ 1073741824) := Lib.hid (by
        have h1 : r.f ∈ D.F := by rw [← h.eq]; exact List.mem_map_of_mem hmem
        have h2 : (r.f.b.length : Int) ≤ D.room := hi.one_le h1
        have := hi.room
        omega)
      obtain ⟨hk, he⟩ := kfnd_place (h.rise hr) hp
      obtain ⟨k, hkk⟩ : ∃ k, k = kpl Rf.key L s.data.toList := ⟨_, rfl⟩
      simp only [← hkk] at hk he HP
      have HBD := Lib.hid (h0.body r hmem)
      obtain ⟨q, c, rfl, hc, -, e1, -⟩ := h0.at hk
      rw [he] at e1
      have E1 := Lib.hid e1
      have hw1 := below_alloc (w.alloc (.cells #[.string s] 9)) (.cells #[] 5)
      have e1' := cell_kept e1 hw1
      have c1 := (h0.kept hw1).blk.cell (j := 1) rfl
      have HSR : Hid (Src Try.prog 1 29 r.v r.f.b.length (r.f.b.map B) ((w.alloc (.cells #[.string s] 9)).alloc (.cells #[] 5))) := Lib.hid (Row.src Try.underlying29 (Fresh.rd (own_keep HBD.out hw1)))
      have HOW : Hid (((w.alloc (.cells #[.string s] 9)).alloc (.cells #[] 5)).ownsRow w.heap.size 5 1 (.slice (some ⟨w.heap.size + 1, 0, none⟩) 0 0) 0 []) := Lib.hid (by have := own_mono (World.ownsRow_lit (e := 5) (size := 1) (w.alloc (.cells #[.string s] 9)) #[] 0 (Nat.le_refl _) (by simp [maxLen]) rfl) hb0.size; simpa using this)
      have HB1 := Lib.hid (below_and hb0 hw1)
      have b0 : (0 : Int) ≤ (k : Int) := by omega
      have i1 : (k : Int) < (L.length : Int) := by omega
      clear h h0 hs hr ha hp hb0 he hkk hi hmem hw1 e1
      go_enter Try.func56, Try.ntmps56
      go_wp2_with (first
        | (go_at_call 63; refine HA.out.mono ?_; rintro e w3 ⟨rfl, rfl⟩)
        | (go_at_call 64; refine HP.out.mono ?_; rintro e w3 ⟨rfl, rfl⟩)
        | (at_builtin; go_loud (refine wpList_app _ rfl _ _ 29 29 rfl w.heap.size 5 ix (.int .u8 0) 1 1 Try.underlying29 hix hz0 hz1 hz2 rfl _ 0 [] rfl HOW.out _ r.f.b.length (r.f.b.map B) rfl HSR.out (by have := HRM.out; unfold maxLen; omega) (by have := HRM.out; omega) HB1.out.size ?_); intro v' w' hown' hgrow _; have HN := Lib.hid hown'; have HB := Lib.hid (below_grown HB1.out HB1.out.size HOW.out hgrow); clear hown' hgrow))
      go_ret2
      rw [HF.out]
      exact ⟨_, rfl, by have := HN.out; unfold Fresh; simpa using this, HB.out⟩
  · have HA := Lib.hid (rasked_any g vF D L [s] _ _ h0 (row1r w s 9) (by simpa using hs))
    have HF : Hid (D.read s = (D.ask [s], [])) := Lib.hid (by unfold Dk.read; rw [if_pos ha])
    obtain ⟨q, hq⟩ : ∃ q, q = D.ask [s] := ⟨_, rfl⟩
    rw [← hq] at ha HF HA
    have q0 : (q != 0) = true := by simpa using ha
    clear h h0 hs hr ha hq hb0 hi
    go_enter Try.func56, Try.ntmps56
    go_wp2_with (go_at_call 63; refine HA.out.mono ?_; rintro e w3 ⟨rfl, rfl⟩)
    go_ret2
    rw [HF.out]
    exact ⟨_, rfl, World.ownsRow_nil _ _ _ _, HB0.out⟩
end
end Go.Proofs.Ytgcemddobcjpnaa
namespace Go.Proofs.Ytgcemddobcjpnaa
open Go.RowKit

theorem RSt.sub {w w' : World} {g : Nat} {v v' : Value} {L L' : List Rf} {x : Rf} (h : RSt w w' g v v' (x :: L) L') (hx : ∀ k, x.v.ownBlock = some k → fpR g v L k ∨ w.heap.size ≤ k) : RSt w w' g v v' L L' := by
  have hc : ∀ k, fpR g v (x :: L) k → fpR g v L k ∨ w.heap.size ≤ k := fun k hk => by
    rcases hk with hk | hk | ⟨r, hr, hk⟩
    · exact .inl (.inl hk)
    · exact .inl (.inr (.inl hk))
    · rcases List.mem_cons.1 hr with rfl | hr
      · exact hx k hk
      · exact .inl (.inr (.inr ⟨r, hr, hk⟩))
  refine ⟨?_, fun k hk => (h.new k hk).elim (hc k) .inr⟩
  exact (Frp.refl (fpR g v L) w).trans h.fr hc
theorem fpR_set {g : Nat} {v : Value} {L : List Rf} {i k : Nat} {x : Rf} (h : fpR g v (L.set i x) k) : fpR g v L k ∨ x.v.ownBlock = some k := by
  rcases h with h | h | ⟨r, hr, h⟩
  · exact .inl (.inl h)
  · exact .inl (.inr (.inl h))
  · rcases List.mem_or_eq_of_mem_set hr with h1 | rfl
    · exact .inl (.inr (.inr ⟨r, h1, h⟩))
    · exact .inr h
theorem map_place {w : World} {g : Nat} {vF : Value} {D : Dk} {L : List Rf} (h : RDk w g vF D L) (s : List UInt8) : kpl Fl.key D.F s = kpl Rf.key L s := by
  rw [← h.eq]
  exact kpl_map (key := Rf.key) (key' := Fl.key) (f := Rf.f) (fun _ => rfl) L s
/-- a file in place of the one at its place -/
theorem put_set {w : World} {g : Nat} {vF : Value} {D : Dk} {L : List Rf} (h : RDk w g vF D L) (hr : KRise Fl.key D.F) {s : List UInt8} {r : Rf} (hp : kfnd Rf.key L s = some r) {f : Fl} (hf : f.key = s) : kput Fl.key D.F f = D.F.set (kpl Rf.key L s) f := by
  rw [kput_same (s := s) hr (by rw [h.find, hp]; rfl) hf, map_place h]
/-- a file that was not there -/
theorem put_new {w : World} {g : Nat} {vF : Value} {D : Dk} {L : List Rf} (h : RDk w g vF D L) (hr : KRise Fl.key D.F) {f : Fl} (hp : kfnd Rf.key L f.key = none) : kput Fl.key D.F f = D.F.take (kpl Rf.key L f.key) ++ f :: D.F.drop (kpl Rf.key L f.key) := by
  have hn : ∀ e ∈ D.F, e.key ≠ f.key := kfnd_none (by rw [h.find, hp]; rfl)
  unfold kput
  rw [krem_no hn, kins_places hr hn, map_place h]
/-- a file is no more -/
theorem cut_erase {w : World} {g : Nat} {vF : Value} {D : Dk} {L : List Rf} (h : RDk w g vF D L) (hr : KRise Fl.key D.F) {s : List UInt8} {r : Rf} (hp : kfnd Rf.key L s = some r) : krem Fl.key D.F s = D.F.eraseIdx (kpl Rf.key L s) := by
  rw [krem_place hr (by rw [h.find, hp]; rfl), map_place h]
theorem rcases_may (D : Dk) : D.may = true ∨ D.may = false := by cases D.may <;> simp

section
variable (g : Nat) (vF : Value) (D : Dk) (L : List Rf) (M : Nat) (N : Int) (s : ByteArray) (w : World) (h : RDk w g vF D L) (hi : DkI D M N) (hM : M ≤ 100000) (hN : N < 4611686018427387904) (hs : s.size ≤ maxLen)
include h hi hM hN hs

/-! Make -/
set_option maxRecDepth 100000 in
set_option maxHeartbeats 2000000 in
theorem rmake_any : Calls Try.prog 46 #[ptr g, .string s] w fun e w' => e = .returned (.int .i64 (D.make s).1) ∧ RdTo w w' g vF L (D.make s).2 := by
  have hb0 := below_alloc w (.cells #[.string s] 9)
  have HB0 := Lib.hid hb0
  have h0 := h.kept hb0
  have H := Lib.hid h
  have H0 := Lib.hid h0
  have hr := hi.rise
  have HLN : Hid (L.length ≤ 100000) := Lib.hid (by rw [h.len]; have := hi.len; omega)
  by_cases ha : D.ask [s] = 0
  · have HA := Lib.hid (rask0 [s] _ h0 (row1r w s 9) (by simpa using hs) ha)
    have ha1 : ¬ (D.ask [s] ≠ 0) := by rw [ha]; simp
    cases hp : kfnd Rf.key L s.data.toList with
    | some r =>
      have HF : Hid (D.make s = (7, D)) := Lib.hid (by unfold Dk.make; rw [if_neg ha1, if_pos (by rw [h.get_some hp]; rfl)])
      have HP := Lib.hid (place_yes h0 hr hp)
      clear h h0 hi hM hN hs hr ha ha1 hp hb0
      go_enter Try.func46, Try.ntmps46
      go_wp2_with (first
        | (go_at_call 63; refine HA.out.mono ?_; rintro e w3 ⟨rfl, rfl⟩)
        | (go_at_call 64; refine HP.out.mono ?_; rintro e w3 ⟨rfl, rfl⟩))
      go_ret
      rw [HF.out]
      exact ⟨rfl, RdTo.same H.out HB0.out⟩
    | none =>
      have HP := Lib.hid (place_no h0 hr hp)
      rcases rcases_may D with hm | hm
      · have HF : Hid (D.make s = (0, D.stepped.put ⟨s, [], 0⟩)) := Lib.hid (by unfold Dk.make; rw [if_neg ha1, if_neg (by rw [h.get_none hp]; simp), if_pos hm])
        have HST := Lib.hid (rstep_yes g vF D L M N _ h0 hi hN hm)
        have HPUT : Hid (∀ w5, RDk w5 g vF D.stepped L → Calls Try.prog 66 #[ptr g, .agg #[.string s, .slice none 0 0, .int .i64 0]] w5 fun e w' => e = .returned (.tuple #[]) ∧ ∃ vF' L', RDk w' g vF' (D.stepped.put ⟨s, [], 0⟩) L' ∧ RSt w5 w' g vF vF' L L') := Lib.hid (fun w5 h5 => by
          have := rput_any g vF D.stepped (D.stepped.put ⟨s, [], 0⟩) L ⟨⟨s, [], 0⟩, .slice none 0 0⟩ w5 h5 hr (World.ownsRow_nil _ _ _ _) HLN.out (put_new (f := ⟨s, [], 0⟩) h5 hr hp) (fun _ => rfl)
          exact this.mono fun e w' ⟨he, v', h1, h2⟩ => ⟨he, v', _, h1, h2.sub (fun k hk => by cases hk)⟩)
        clear h h0 hi hM hN hs hr ha ha1 hp hb0 hm
        go_enter Try.func46, Try.ntmps46
        go_wp2_with (first
          | (go_at_call 63; refine HA.out.mono ?_; rintro e w3 ⟨rfl, rfl⟩)
          | (go_at_call 64; refine HP.out.mono ?_; rintro e w3 ⟨rfl, rfl⟩)
          | (go_at_call 65; refine HST.out.mono ?_; rintro e w5 ⟨rfl, h5, s5⟩; have H5 := Lib.hid h5; have S5 := Lib.hid s5; clear h5 s5)
          | (go_at_call 66; refine (HPUT.out _ H5.out).mono ?_; rintro e w6 ⟨rfl, v6, L6, h6, s6⟩; have H6 := Lib.hid h6; have S6 := Lib.hid s6; clear h6 s6))
        go_ret
        rw [HF.out]
        exact ⟨rfl, v6, L6, H6.out, (S5.out.trans S6.out).box HB0.out⟩
      · have HF : Hid (D.make s = (10, D.dead)) := Lib.hid (by unfold Dk.make; rw [if_neg ha1, if_neg (by rw [h.get_none hp]; simp), if_neg (by rw [hm]; simp)])
        have HST := Lib.hid (rstep_no g vF D L _ h0 hm)
        clear h h0 hi hM hN hs hr ha ha1 hp hb0 hm
        go_enter Try.func46, Try.ntmps46
        go_wp2_with (first
          | (go_at_call 63; refine HA.out.mono ?_; rintro e w3 ⟨rfl, rfl⟩)
          | (go_at_call 64; refine HP.out.mono ?_; rintro e w3 ⟨rfl, rfl⟩)
          | (go_at_call 65; refine HST.out.mono ?_; rintro e w5 ⟨rfl, h5, s5⟩; have H5 := Lib.hid h5; have S5 := Lib.hid s5; clear h5 s5))
        go_ret
        rw [HF.out]
        exact ⟨rfl, vF, L, H5.out, S5.out.box HB0.out⟩
  · have HA := Lib.hid (rasked_any g vF D L [s] _ _ h0 (row1r w s 9) (by simpa using hs))
    have HF : Hid (D.make s = (D.ask [s], D)) := Lib.hid (by unfold Dk.make; rw [if_pos ha])
    obtain ⟨q, hq⟩ : ∃ q, q = D.ask [s] := ⟨_, rfl⟩
    rw [← hq] at ha HF HA
    have q0 : (q != 0) = true := by simpa using ha
    clear h h0 hi hM hN hs hr ha hq hb0
    go_enter Try.func46, Try.ntmps46
    go_wp2_with (go_at_call 63; refine HA.out.mono ?_; rintro e w3 ⟨rfl, rfl⟩)
    go_ret
    rw [HF.out]
    exact ⟨rfl, RdTo.same H.out HB0.out⟩

/-! Sync -/
set_option maxRecDepth 100000 in
set_option maxHeartbeats 2000000 in
theorem rsync_any : Calls Try.prog 48 #[ptr g, .string s] w fun e w' => e = .returned (.int .i64 (D.sync s).1) ∧ RdTo w w' g vF L (D.sync s).2 := by
  have hb0 := below_alloc w (.cells #[.string s] 9)
  have HB0 := Lib.hid hb0
  have h0 := h.kept hb0
  have H := Lib.hid h
  have H0 := Lib.hid h0
  have hr := hi.rise
  have HLN : Hid (L.length ≤ 100000) := Lib.hid (by rw [h.len]; have := hi.len; omega)
  by_cases ha : D.ask [s] = 0
  · have HA := Lib.hid (rask0 [s] _ h0 (row1r w s 9) (by simpa using hs) ha)
    have ha1 : ¬ (D.ask [s] ≠ 0) := by rw [ha]; simp
    cases hp : kfnd Rf.key L s.data.toList with
    | none =>
      have HF : Hid (D.sync s = (6, D)) := Lib.hid (by unfold Dk.sync; rw [if_neg ha1, h.get_none hp])
      have HP := Lib.hid (place_no h0 hr hp)
      clear h h0 hi hM hN hs hr ha ha1 hp hb0
      go_enter Try.func48, Try.ntmps48
      go_wp2_with (first
        | (go_at_call 63; refine HA.out.mono ?_; rintro e w3 ⟨rfl, rfl⟩)
        | (go_at_call 64; refine HP.out.mono ?_; rintro e w3 ⟨rfl, rfl⟩))
      go_ret
      rw [HF.out]
      exact ⟨rfl, RdTo.same H.out HB0.out⟩
    | some r =>
      have HP := Lib.hid (place_yes h0 hr hp)
      obtain ⟨hk, he⟩ := kfnd_place (h.rise hr) hp
      obtain ⟨k, hkk⟩ : ∃ k, k = kpl Rf.key L s.data.toList := ⟨_, rfl⟩
      simp only [← hkk] at hk he HP
      rcases rcases_may D with hm | hm
      · have HF : Hid (D.sync s = (0, D.stepped.put { r.f with s := r.f.b.length })) := Lib.hid (by unfold Dk.sync; rw [if_neg ha1, h.get_some hp]; simp only; rw [if_pos hm])
        have HST := Lib.hid (rstep_yes g vF D L M N _ h0 hi hN hm)
        have hmem := (kfnd_mem hp).1
        obtain ⟨pv, pc, hv, hpc, -⟩ := own_slice (h0.body r hmem)
        obtain ⟨q, c, rfl, hc, -, -, -⟩ := h0.at hk
        have HSET : Hid (∀ w6, RDk w6 g (.slice (some ⟨q, 0, none⟩) L.length c) D.stepped L → ∃ L', RDk (w6.setCell ⟨q, k * 3 + 2, none⟩ (.int .i64 (r.f.b.length : Int))) g (.slice (some ⟨q, 0, none⟩) L.length c) (D.stepped.put { r.f with s := r.f.b.length }) L' ∧ RSt w6 (w6.setCell ⟨q, k * 3 + 2, none⟩ (.int .i64 (r.f.b.length : Int))) g (.slice (some ⟨q, 0, none⟩) L.length c) (.slice (some ⟨q, 0, none⟩) L.length c) L L') := Lib.hid (fun w6 h6 => by
          have hset := h6.setAt (i := k) (j := 2) (u := .int .i64 (r.f.b.length : Int)) (x := ⟨{ r.f with s := r.f.b.length }, r.v⟩) (D' := D.stepped.put { r.f with s := r.f.b.length }) hk (by omega) (by rw [he]; rfl) rfl (h6.body r hmem) (by rw [hkk]; exact put_set h6 hr hp (kfnd_mem hp).2) rfl
          refine ⟨_, hset, ⟨((Frp.refl (fpR g (.slice (some ⟨q, 0, none⟩) L.length c) L) w6).set (p := ⟨q, k * 3 + 2, none⟩) (.inr (.inl rfl)) _), fun y hy => ?_⟩⟩
          rcases fpR_set hy with h1 | h1
          · exact .inl h1
          · exact .inl (.inr (.inr ⟨r, hmem, h1⟩)))
        have HFC : Hid (∀ w6, RDk w6 g (.slice (some ⟨q, 0, none⟩) L.length c) D.stepped L → w6.cell? ⟨g, 1, none⟩ = some (.slice (some ⟨q, 0, none⟩) L.length c) ∧ w6.cell? ⟨q, k * 3 + 1, none⟩ = some (.slice pv r.f.b.length pc) ∧ w6.cell? ⟨q, k * 3 + 2, none⟩ = some (.int .i64 (r.f.s : Int)) ∧ w6.frozen? ⟨q, k * 3 + 2, none⟩ = false) := Lib.hid (fun w6 h6 => by
          obtain ⟨q2, c2, e, -, -, e1, e2⟩ := h6.at hk
          simp only [Value.slice.injEq, Option.some.injEq, Addr.mk.injEq, and_true, true_and] at e
          obtain ⟨rfl, rfl⟩ := e
          rw [he] at e1 e2
          exact ⟨h6.blk.cell (j := 1) rfl, by rw [← hv]; exact e1, e2, own_free h6.row _⟩)
        have b0 : (0 : Int) ≤ (k : Int) := by omega
        have i1 : (k : Int) < (L.length : Int) := by omega
        clear h h0 hi hM hN hs hr ha ha1 hp hb0 hm  hk he hkk hmem hv
        go_enter Try.func48, Try.ntmps48
        go_upto_region 9 with (first
          | (go_at_call 63; refine HA.out.mono ?_; rintro e w3 ⟨rfl, rfl⟩)
          | (go_at_call 64; refine HP.out.mono ?_; rintro e w3 ⟨rfl, rfl⟩)
          | (go_at_call 65; refine HST.out.mono ?_; rintro e w5 ⟨rfl, h5, s5⟩; have H5 := Lib.hid h5; have S5 := Lib.hid s5; clear h5 s5))
        have q0 := Past.cell (HFC.out _ H5.out).1
        have q1 := Past.cell (HFC.out _ H5.out).2.1
        refine wp_region_past_one rfl (by kernel_rfl) (by kernel_rfl) (by kernel_rfl) ?_
        repeat (go_big_quiet_step (fail))
        refine wpQuiet_nil ?_
        intro _ hw'
        obtain ⟨s', hw''⟩ := hw'
        subst hw''
        obtain ⟨w6, h6, e6⟩ : ∃ w6, Below w5.heap.size w5 w6 ∧ w6 = s'.val := ⟨_, s'.h, rfl⟩
        rw [← e6]
        have H6 := Lib.hid (H5.out.kept h6)
        have S6 := Lib.hid (S5.out.trans (RSt.of_below h6))
        obtain ⟨-, -, d2, f2⟩ := HFC.out _ H6.out
        clear h6 e6 q0 q1
        go_wp2
        go_ret
        rw [HF.out]
        obtain ⟨L', h7, s7⟩ := HSET.out _ H6.out
        exact ⟨rfl, _, L', h7, (S6.out.trans s7).box HB0.out⟩
      · have HF : Hid (D.sync s = (10, D.dead)) := Lib.hid (by unfold Dk.sync; rw [if_neg ha1, h.get_some hp]; simp only; rw [if_neg (by rw [hm]; simp)])
        have HST := Lib.hid (rstep_no g vF D L _ h0 hm)
        clear h h0 hi hM hN hs hr ha ha1 hp hb0 hm  hk he hkk
        go_enter Try.func48, Try.ntmps48
        go_wp2_with (first
          | (go_at_call 63; refine HA.out.mono ?_; rintro e w3 ⟨rfl, rfl⟩)
          | (go_at_call 64; refine HP.out.mono ?_; rintro e w3 ⟨rfl, rfl⟩)
          | (go_at_call 65; refine HST.out.mono ?_; rintro e w5 ⟨rfl, h5, s5⟩; have H5 := Lib.hid h5; have S5 := Lib.hid s5; clear h5 s5))
        go_ret
        rw [HF.out]
        exact ⟨rfl, vF, L, H5.out, S5.out.box HB0.out⟩
  · have HA := Lib.hid (rasked_any g vF D L [s] _ _ h0 (row1r w s 9) (by simpa using hs))
    have HF : Hid (D.sync s = (D.ask [s], D)) := Lib.hid (by unfold Dk.sync; rw [if_pos ha])
    obtain ⟨q, hq⟩ : ∃ q, q = D.ask [s] := ⟨_, rfl⟩
    rw [← hq] at ha HF HA
    have q0 : (q != 0) = true := by simpa using ha
    clear h h0 hi hM hN hs hr ha hq hb0
    go_enter Try.func48, Try.ntmps48
    go_wp2_with (go_at_call 63; refine HA.out.mono ?_; rintro e w3 ⟨rfl, rfl⟩)
    go_ret
    rw [HF.out]
    exact ⟨rfl, RdTo.same H.out HB0.out⟩

/-! Remove -/
set_option maxRecDepth 100000 in
set_option maxHeartbeats 2000000 in
theorem rremove_any : Calls Try.prog 50 #[ptr g, .string s] w fun e w' => e = .returned (.int .i64 (D.remove s).1) ∧ RdTo w w' g vF L (D.remove s).2 := by
  have hb0 := below_alloc w (.cells #[.string s] 9)
  have HB0 := Lib.hid hb0
  have h0 := h.kept hb0
  have H := Lib.hid h
  have H0 := Lib.hid h0
  have hr := hi.rise
  have HLN : Hid (L.length ≤ 100000) := Lib.hid (by rw [h.len]; have := hi.len; omega)
  by_cases ha : D.ask [s] = 0
  · have HA := Lib.hid (rask0 [s] _ h0 (row1r w s 9) (by simpa using hs) ha)
    have ha1 : ¬ (D.ask [s] ≠ 0) := by rw [ha]; simp
    cases hp : kfnd Rf.key L s.data.toList with
    | none =>
      have HF : Hid (D.remove s = (6, D)) := Lib.hid (by unfold Dk.remove; rw [if_neg ha1, h.get_none hp])
      have HP := Lib.hid (place_no h0 hr hp)
      clear h h0 hi hM hN hs hr ha ha1 hp hb0
      go_enter Try.func50, Try.ntmps50
      go_wp2_with (first
        | (go_at_call 63; refine HA.out.mono ?_; rintro e w3 ⟨rfl, rfl⟩)
        | (go_at_call 64; refine HP.out.mono ?_; rintro e w3 ⟨rfl, rfl⟩))
      go_ret
      rw [HF.out]
      exact ⟨rfl, RdTo.same H.out HB0.out⟩
    | some r =>
      have HP := Lib.hid (place_yes h0 hr hp)
      obtain ⟨hk, he⟩ := kfnd_place (h.rise hr) hp
      obtain ⟨k, hkk⟩ : ∃ k, k = kpl Rf.key L s.data.toList := ⟨_, rfl⟩
      simp only [← hkk] at hk he HP
      rcases rcases_may D with hm | hm
      · have HF : Hid (D.remove s = (0, D.stepped.cut s)) := Lib.hid (by unfold Dk.remove; rw [if_neg ha1, h.get_some hp]; simp only; rw [if_pos hm])
        have HST := Lib.hid (rstep_yes g vF D L M N _ h0 hi hN hm)
        have HCUT : Hid (∀ w5, RDk w5 g vF D.stepped L → Calls Try.prog 68 #[ptr g, .int .i64 (k : Int)] w5 fun e w' => e = .returned (.tuple #[]) ∧ ∃ vF', RDk w' g vF' (D.stepped.cut s) (L.eraseIdx k) ∧ RSt w5 w' g vF vF' L (L.eraseIdx k) ∧ Frp (fun j => j = g) w5 w') := Lib.hid (fun w5 h5 => rcut_any g k vF D.stepped (D.stepped.cut s) L w5 h5 hk HLN.out (by rw [hkk]; exact cut_erase h5 hr hp) (fun _ => rfl))
        clear h h0 hi hM hN hs hr ha ha1 hp hb0 hm  hk he hkk
        go_enter Try.func50, Try.ntmps50
        go_wp2_with (first
          | (go_at_call 63; refine HA.out.mono ?_; rintro e w3 ⟨rfl, rfl⟩)
          | (go_at_call 64; refine HP.out.mono ?_; rintro e w3 ⟨rfl, rfl⟩)
          | (go_at_call 65; refine HST.out.mono ?_; rintro e w5 ⟨rfl, h5, s5⟩; have H5 := Lib.hid h5; have S5 := Lib.hid s5; clear h5 s5)
          | (go_at_call 68; refine (HCUT.out _ H5.out).mono ?_; rintro e w6 ⟨rfl, v6, h6, s6, -⟩; have H6 := Lib.hid h6; have S6 := Lib.hid s6; clear h6 s6))
        go_ret
        rw [HF.out]
        exact ⟨rfl, v6, _, H6.out, (S5.out.trans S6.out).box HB0.out⟩
      · have HF : Hid (D.remove s = (10, D.dead)) := Lib.hid (by unfold Dk.remove; rw [if_neg ha1, h.get_some hp]; simp only; rw [if_neg (by rw [hm]; simp)])
        have HST := Lib.hid (rstep_no g vF D L _ h0 hm)
        clear h h0 hi hM hN hs hr ha ha1 hp hb0 hm  hk he hkk
        go_enter Try.func50, Try.ntmps50
        go_wp2_with (first
          | (go_at_call 63; refine HA.out.mono ?_; rintro e w3 ⟨rfl, rfl⟩)
          | (go_at_call 64; refine HP.out.mono ?_; rintro e w3 ⟨rfl, rfl⟩)
          | (go_at_call 65; refine HST.out.mono ?_; rintro e w5 ⟨rfl, h5, s5⟩; have H5 := Lib.hid h5; have S5 := Lib.hid s5; clear h5 s5))
        go_ret
        rw [HF.out]
        exact ⟨rfl, vF, L, H5.out, S5.out.box HB0.out⟩
  · have HA := Lib.hid (rasked_any g vF D L [s] _ _ h0 (row1r w s 9) (by simpa using hs))
    have HF : Hid (D.remove s = (D.ask [s], D)) := Lib.hid (by unfold Dk.remove; rw [if_pos ha])
    obtain ⟨q, hq⟩ : ∃ q, q = D.ask [s] := ⟨_, rfl⟩
    rw [← hq] at ha HF HA
    have q0 : (q != 0) = true := by simpa using ha
    clear h h0 hi hM hN hs hr ha hq hb0
    go_enter Try.func50, Try.ntmps50
    go_wp2_with (go_at_call 63; refine HA.out.mono ?_; rintro e w3 ⟨rfl, rfl⟩)
    go_ret
    rw [HF.out]
    exact ⟨rfl, RdTo.same H.out HB0.out⟩
end
end Go.Proofs.Ytgcemddobcjpnaa
