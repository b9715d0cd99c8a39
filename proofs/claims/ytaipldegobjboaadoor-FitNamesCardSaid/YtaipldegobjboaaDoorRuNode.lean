/- RuNode. -/
import Derived.Test.YtaipldegobjboaaDoorMRu1
import Derived.Test.YtaipldegobjboaaDoorCutH
namespace Go.Proofs.YtaipldegobjboaaDoor.Ru
open Go.RowKit Go.Proofs.YtaipldegobjboaaDoor

theorem info_nd : (Tryd.prog.info? 33).map (fun i => (i.zero, i.size, i.bytes)) = some (some (.agg #[.int .i64 0, .string ⟨#[]⟩, .string ⟨#[]⟩, .int .i64 0, .int .i64 0, .int .i64 0]), 6, 64) := by kernel_rfl
/-- behind a node that was put in -/
def NodeS (base : Nat) (w w' : World) (b : Nat) (s : ByteArray) (k : Nat) (d n : Int) (v : Value) (L : List Nd) : Prop :=
  ∃ v', Prs base w' b s k d n v' L 0 0 ∧ Frp (fun j => j = b ∨ v.ownBlock = some j) w w' ∧ ∀ q, v'.ownBlock = some q → v.ownBlock = some q ∨ w.heap.size ≤ q

set_option maxRecDepth 100000 in
set_option maxHeartbeats 1000000 in
theorem node_bad (base b : Nat) (s : ByteArray) (k : Nat) (d n : Int) (v : Value) (L : List Nd) (e a : Int) (x : Nd) (w : World) (h : Prs base w b s k d n v L e a) (he : e ≠ 0) :
    Calls Tryd.prog 72 #[ptr b, ndV x] w fun r w' => r = .returned (.int .i64 (-1)) ∧ Prs base w' b s k d n v L e a ∧ Onb b w w' := by
  obtain ⟨w1, hw1⟩ : ∃ w1, w1 = w.alloc (.cells #[.int .i64 x.k, .string (bs x.nm), .string (bs x.vl), .int .i64 x.x, .int .i64 x.a, .int .i64 x.b] 33) := ⟨_, rfl⟩
  obtain ⟨B, hB⟩ : ∃ B, B = w.heap.size := ⟨_, rfl⟩
  have hbl : Below w.heap.size w w1 := by rw [hw1]; exact below_alloc w _
  have H1 := Lib.hid (h.kept hbl)
  have HO1 : Hid (Onb b w w1) := Lib.hid (Frp.of_below hbl _)
  have c5 := H1.out.c5
  have c6 := H1.out.c6
  have t1 : (e == 0) = false := by simpa using he
  clear h hbl he
  go_enter Tryd.func72, Tryd.ntmps72
  go_upto_region 1 with fail
  rw [← hw1, ← hB]
  clear hw1 hB
  go_wp2
  go_ret
  exact ⟨rfl, H1.out, HO1.out⟩

set_option maxRecDepth 100000 in
set_option maxHeartbeats 2000000 in
theorem node_ok (base b : Nat) (s : ByteArray) (k : Nat) (d n : Int) (v : Value) (L : List Nd) (x : Nd) (w : World) (h : Prs base w b s k d n v L 0 0) (hl : L.length ≤ 1000) (hbase : base ≤ w.heap.size) :
    Calls Tryd.prog 72 #[ptr b, ndV x] w fun r w' => r = .returned (.int .i64 (L.length : Int)) ∧ NodeS base w w' b s k d n v (L ++ [x]) := by
  obtain ⟨ix, hi, hz0, hz1, hz2⟩ := info_parts info_nd
  obtain ⟨w1, hw1⟩ : ∃ w1, w1 = w.alloc (.cells #[.int .i64 x.k, .string (bs x.nm), .string (bs x.vl), .int .i64 x.x, .int .i64 x.a, .int .i64 x.b] 33) := ⟨_, rfl⟩
  obtain ⟨B, hB⟩ : ∃ B, B = w.heap.size := ⟨_, rfl⟩
  have hbl : Below w.heap.size w w1 := by rw [hw1]; exact below_alloc w _
  have X1 : Hid (Blk w1 B (ndC x) 33) := Lib.hid (by rw [hw1, hB]; exact Blk.made w (ndC x) _)
  have H1 := Lib.hid (h.kept hbl)
  have HBL := Lib.hid hbl
  have HVB : Hid (∀ q, v.ownBlock = some q → q < B) := Lib.hid (fun q hq => by rw [hB]; exact own_hi h.own hq)
  have HB0 : Hid (b < B) := Lib.hid (by rw [hB]; exact h.blk.lt)
  have HBW : Hid (B = w.heap.size) := Lib.hid hB
  have HBS := Lib.hid hbase
  have HL := Lib.hid hl
  have c5 := H1.out.c5
  have c6 := H1.out.c6
  have HSS : Hid (∀ w', Below w1.heap.size w1 w' → w'.cell? ⟨b, 4, none⟩ = some v ∧ w'.cell? ⟨B, 0, none⟩ = some (.int .i64 x.k) ∧ w'.cell? ⟨B, 1, none⟩ = some (.string (bs x.nm)) ∧ w'.cell? ⟨B, 2, none⟩ = some (.string (bs x.vl)) ∧ w'.cell? ⟨B, 3, none⟩ = some (.int .i64 x.x) ∧ w'.cell? ⟨B, 4, none⟩ = some (.int .i64 x.a) ∧ w'.cell? ⟨B, 5, none⟩ = some (.int .i64 x.b)) := Lib.hid (fun w' hb => ⟨(H1.out.kept hb).c4, (X1.out.kept hb).cell (j := 0) rfl, (X1.out.kept hb).cell (j := 1) rfl, (X1.out.kept hb).cell (j := 2) rfl, (X1.out.kept hb).cell (j := 3) rfl, (X1.out.kept hb).cell (j := 4) rfl, (X1.out.kept hb).cell (j := 5) rfl⟩)
  clear h hbl hl hbase
  go_enter Tryd.func72, Tryd.ntmps72
  go_upto_region 1 with fail
  rw [← hw1, ← hB]
  clear hw1 hB
  go_upto_region 3 with fail
  clear c5 c6
  refine wp_region_noPanic ?_
  refine wp_region_lastH (fun w' => w'.cell? ⟨b, 4, none⟩ = some v ∧ w'.cell? ⟨B, 0, none⟩ = some (.int .i64 x.k) ∧ w'.cell? ⟨B, 1, none⟩ = some (.string (bs x.nm)) ∧ w'.cell? ⟨B, 2, none⟩ = some (.string (bs x.vl)) ∧ w'.cell? ⟨B, 3, none⟩ = some (.int .i64 x.x) ∧ w'.cell? ⟨B, 4, none⟩ = some (.int .i64 x.a) ∧ w'.cell? ⟨B, 5, none⟩ = some (.int .i64 x.b)) 10 rfl rfl (by kernel_rfl) (by kernel_rfl) (HSS.out _ (below_drewN 1)) (fun hHeld => ?_)
  have HB2 : Hid (Below w1.heap.size w1 w1.drew) := Lib.hid (below_drewN 1)
  obtain ⟨w2, hw2⟩ : ∃ xq, xq = w1.drew := ⟨_, rfl⟩
  rw [← hw2] at hHeld HB2 ⊢
  clear hw2
  refine wpAnyH_take (i := 0) (v := ?v1) rfl (by kernel_rfl) (by kernel_rfl) (by kernel_rfl) (fun _ _ _ h => h) (Or.inl ⟨by rfl, ?hy1⟩) (by assumption) ?rest1
  case hy1 => (intro _ hSw; (try dsimp only at hSw); go_simp; (try with_reducible rfl))
  (try simp only [Act.put]); (try simp only [List.setIfInBounds_toArray]); (try simp only [List.set_cons_succ]); (try simp only [List.set_cons_zero])
  refine wpAnyH_take (i := 1) (v := ?v2) rfl (by kernel_rfl) (by kernel_rfl) (by kernel_rfl) (fun _ _ _ h => h) (Or.inl ⟨by rfl, ?hy2⟩) (by assumption) ?rest2
  case hy2 => (intro _ hSw; (try dsimp only at hSw); go_simp; (try with_reducible rfl))
  (try simp only [Act.put]); (try simp only [List.setIfInBounds_toArray]); (try simp only [List.set_cons_succ]); (try simp only [List.set_cons_zero])
  refine wpAnyH_take (i := 2) (v := ?v3) rfl (by kernel_rfl) (by kernel_rfl) (by kernel_rfl) (fun _ _ _ h => h) (Or.inl ⟨by rfl, ?hy3⟩) (by assumption) ?rest3
  case hy3 => (intro _ hSw; (try dsimp only at hSw); go_simp; (try with_reducible rfl))
  (try simp only [Act.put]); (try simp only [List.setIfInBounds_toArray]); (try simp only [List.set_cons_succ]); (try simp only [List.set_cons_zero])
  refine wpAnyH_take (i := 3) (v := ?v4) rfl (by kernel_rfl) (by kernel_rfl) (by kernel_rfl) (fun _ _ _ h => h) (Or.inl ⟨by rfl, ?hy4⟩) (by assumption) ?rest4
  case hy4 => (intro _ hSw; (try dsimp only at hSw); go_simp; (try with_reducible rfl))
  (try simp only [Act.put]); (try simp only [List.setIfInBounds_toArray]); (try simp only [List.set_cons_succ]); (try simp only [List.set_cons_zero])
  refine wpAnyH_take (i := 4) (v := ?v5) rfl (by kernel_rfl) (by kernel_rfl) (by kernel_rfl) (fun _ _ _ h => h) (Or.inl ⟨by rfl, ?hy5⟩) (by assumption) ?rest5
  case hy5 => (intro _ hSw; (try dsimp only at hSw); go_simp; (try with_reducible rfl))
  (try simp only [Act.put]); (try simp only [List.setIfInBounds_toArray]); (try simp only [List.set_cons_succ]); (try simp only [List.set_cons_zero])
  refine wpAnyH_take (i := 5) (v := ?v6) rfl (by kernel_rfl) (by kernel_rfl) (by kernel_rfl) (fun _ _ _ h => h) (Or.inl ⟨by rfl, ?hy6⟩) (by assumption) ?rest6
  case hy6 => (intro _ hSw; (try dsimp only at hSw); go_simp; (try with_reducible rfl))
  (try simp only [Act.put]); (try simp only [List.setIfInBounds_toArray]); (try simp only [List.set_cons_succ]); (try simp only [List.set_cons_zero])
  (try simp only [List.getElem_toArray]); (try simp only [List.getElem_cons_succ]); (try simp only [List.getElem_cons_zero]); (try simp only [List.setIfInBounds_toArray]); (try simp only [List.set_cons_succ, List.set_cons_zero])
  refine wpAnyH_ready (rs := [6]) (by kernel_rfl) (by simp) ?_
  refine (AllReadyH.cons rfl (fun K hK => ?_) AllReadyH.nil)
  (try simp only [List.getElem_toArray]); (try simp only [List.getElem_cons_succ]); (try simp only [List.getElem_cons_zero])
  go_simp
  obtain ⟨w3, hw3⟩ : ∃ xq, xq = w2.alloc (.cells #[.int .i64 x.k, .string (bs x.nm), .string (bs x.vl), .int .i64 x.x, .int .i64 x.a, .int .i64 x.b] 33) := ⟨_, rfl⟩
  obtain ⟨z3, hz3⟩ : ∃ xq, xq = w2.heap.size := ⟨_, rfl⟩
  have hb3 : Below w1.heap.size w1 w3 := by rw [hw3]; exact below_and HB2.out (below_alloc _ _)
  have HY3 : Hid (Blk w3 z3 (ndC x) 33) := Lib.hid (by rw [hw3, hz3]; exact Blk.made w2 (ndC x) _)
  have HB3 := Lib.hid hb3
  rw [← hw3, ← hz3]
  refine hK.out _ _ (HSS.out _ hb3) (fun hS3 => ?_)
  clear hK K hb3 hw3 hz3
  (try simp only [Act.put]); (try simp only [List.setIfInBounds_toArray]); (try simp only [List.set_cons_succ]); (try simp only [List.set_cons_zero])
  have HO3 := Lib.hid (H1.out.kept HB3.out).own
  have HW3 : Hid (base ≤ w3.heap.size) := Lib.hid (by have h1 := HBS.out; have h2 := HBL.out.size; have h3 := HB3.out.size; omega)
  refine wpAnyH_ready (rs := [7]) (by kernel_rfl) (by simp) ?_
  refine (AllReadyH.cons rfl (fun K hK => ?_) AllReadyH.nil)
  refine step_app rfl (.tmp 15) (.tmp 17) 26 26 rfl base 33 ix (.agg #[.int .i64 0, .string ⟨#[]⟩, .string ⟨#[]⟩, .int .i64 0, .int .i64 0, .int .i64 0]) 6 64 Tryd.underlying26 hi hz0 hz1 hz2 rfl v L.length (rwC ndC L) (by rfl) HO3.out (.slice (some ⟨z3, 0, none⟩) 1 1) 1 (ndC x) (by rfl) (src_block Tryd.underlying26 _ z3 (ndC x).toArray HY3.out rfl (ndC_one x)) (by have := HL.out; unfold maxLen; omega) (by have := HL.out; omega) HW3.out ?_
  intro v4 w4 ho4 hg4 hn4 hk4
  have HO4 : Hid (w4.ownsRow base 33 6 v4 (L ++ [x]).length (rwC ndC (L ++ [x]))) := Lib.hid (by rw [rwC_snoc, List.length_append]; exact ho4)
  have HF4 : Hid (Frp (fun j => v.ownBlock = some j) w1 w4) := Lib.hid ((Frp.of_below HB3.out _).grown hg4 (fun q hq => .inl hq))
  have HP4 : Hid (Blk w4 b [.string s, .int .i64 (k : Int), .int .i64 d, .int .i64 n, v, .int .i64 0, .int .i64 0] 97) := Lib.hid (H1.out.blk.frp HF4.out H1.out.nb)
  have HX4 : Hid (Blk w4 B (ndC x) 33) := Lib.hid (X1.out.frp HF4.out (fun hq => by have := HVB.out _ hq; omega))
  have HN4 : Hid (∀ q, v4.ownBlock = some q → v.ownBlock = some q ∨ w.heap.size ≤ q) := Lib.hid (fun q hq => by
    rcases hk4 q hq with h1 | h1
    · exact .inl h1
    · have h2 := HBL.out.size; have h3 := HB3.out.size; exact .inr (by omega))
  refine hK.out _ _ ⟨HP4.out.cell (j := 4) rfl, HX4.out.cell (j := 0) rfl, HX4.out.cell (j := 1) rfl, HX4.out.cell (j := 2) rfl, HX4.out.cell (j := 3) rfl, HX4.out.cell (j := 4) rfl, HX4.out.cell (j := 5) rfl⟩ (fun hS4 => ?_)
  clear hK K ho4 hg4 hn4 hk4
  (try simp only [Act.put]); (try simp only [List.setIfInBounds_toArray]); (try simp only [List.set_cons_succ]); (try simp only [List.set_cons_zero])
  refine wpAnyH_take (i := 8) (v := ?v7) rfl (by kernel_rfl) (by kernel_rfl) (by kernel_rfl) (fun _ _ _ h => h) (Or.inl ⟨by rfl, ?hy7⟩) (by assumption) ?rest7
  case hy7 => (intro _ hSw; (try dsimp only at hSw); go_simp; (try with_reducible rfl))
  (try simp only [Act.put]); (try simp only [List.setIfInBounds_toArray]); (try simp only [List.set_cons_succ]); (try simp only [List.set_cons_zero])
  refine wpAnyH_take (i := 9) (v := ?v8) rfl (by kernel_rfl) (by kernel_rfl) (by kernel_rfl) (fun _ _ _ h => h) (Or.inl ⟨by rfl, ?hy8⟩) (by assumption) ?rest8
  case hy8 => (intro _ hSw; (try dsimp only at hSw); go_simp; (try with_reducible rfl))
  (try simp only [Act.put]); (try simp only [List.setIfInBounds_toArray]); (try simp only [List.set_cons_succ]); (try simp only [List.set_cons_zero])
  refine wpAnyH_done (by kernel_rfl) ?_ _
  refine LastQ.start rfl ?_
  clear hHeld hS3 hS4
  have hne : v4.ownBlock ≠ some b := own_ty HO4.out HP4.out (by decide)
  have HNE := Lib.hid hne
  clear hne
  obtain ⟨p4, q4, hv4, -, hm4⟩ := own_slice HO4.out
  have HPR : Hid (Prs base (w4.setCell ⟨b, 4, none⟩ v4) b s k d n v4 (L ++ [x]) 0 0) := Lib.hid ⟨HP4.out.set 4 v4, own_other HO4.out (p := ⟨b, 4, none⟩) HNE.out _, H1.out.hb, H1.out.kb, H1.out.sz⟩
  have HFF : Hid (Frp (fun j => j = b ∨ v.ownBlock = some j) w (w4.setCell ⟨b, 4, none⟩ v4)) := Lib.hid (((Frp.of_below HBL.out _).then (HF4.out.mono (fun q hq => .inr hq))).set (p := ⟨b, 4, none⟩) (.inl rfl) v4)
  have d4 := HP4.out.cell (j := 4) rfl
  have f4 := HP4.out.free 4
  have hlen : (L ++ [x]).length = L.length + 1 := by simp
  rw [hlen] at hv4
  have hl2 : (L.length : Int) ≤ 1000 := by have := HL.out; omega
  rw [hv4] at HPR HFF HNE HN4 ⊢
  have hml : maxLen ≤ 9223372036854775807 := by decide
  clear hv4 HO4 hlen
  go_wp2
  refine NoPanic.normal ?_
  have c4 := HPR.out.c4
  have u1 : IntKind.i64.wrap ((L.length : Int) + 1 - 1) = (L.length : Int) := by rw [IntKind.wrap_i64]; omega
  go_wp2
  go_ret
  exact ⟨by simp, _, HPR.out, HFF.out, HN4.out⟩
end Go.Proofs.YtaipldegobjboaaDoor.Ru
