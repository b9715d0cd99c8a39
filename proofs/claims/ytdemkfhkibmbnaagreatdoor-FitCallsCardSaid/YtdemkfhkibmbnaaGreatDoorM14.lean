/- RuPart, Lin, CutH, RuNode, RuLeafP, RuTold1, RuShapP, RuToldA. -/
import Derived.Test.YtdemkfhkibmbnaaGreatDoorM12
import Derived.Test.YtdemkfhkibmbnaaGreatDoorRuTight
import Derived.Test.YtdemkfhkibmbnaaGreatDoorRuNum
set_option maxRecDepth 100000
set_option maxHeartbeats 8000000
namespace Go.Proofs.YtdemkfhkibmbnaaGreatDoor.Ru
open Go.RowKit Go.Proofs.YtdemkfhkibmbnaaGreatDoor
theorem bs_app (a b : List UInt8) : bs a ++ bs b = bs (a ++ b) := by
 apply ByteArray.ext
 simp [bs, ByteArray.data_append]
theorem bs_size (l : List UInt8) : (bs l).size = l.length := by show l.toArray.size = _; simp
theorem add_bs (a b : List UInt8) (h : a.length + b.length ≤ 9223372036854775807) (w : World) : (Op.stringOp .add (bs a) (bs b)).run Tryz.prog w = .ok (.string (bs (a ++ b))) w := by
 have := run_string_add_sum (P := Tryz.prog) w (bs a) (bs b) (by rw [bs_size, bs_size]; omega); rw [bs_app] at this; exact this
def ToldC (L : List Nd) (i : Nat) (W : World → Prop) : Prop :=
 ∀ (v : Value) (w : World), Row w v 6 L.length (rwC ndC L) → W w → Calls Tryz.prog 65 #[v, .int .i64 (i : Int)] w fun r w' => r = .returned (.string (bs (tl L i))) ∧ Below w.heap.size w w'
theorem part_any (L : List Nd) (i : Nat) (W : World → Prop) (h : ToldC L i W) (hi : i < L.length) (m : Int) (bx : Nat) (v : Value) (w : World) (hb : w.cell? ⟨bx, 0, none⟩ = some v) (hr : Row w v 6 L.length (rwC ndC L)) (hw : W w) (hlen : (tl L i).length ≤ 1000000000000000000) :
  Calls Tryz.prog 89 #[.int .i64 (i : Int), .int .i64 m, ptr bx] w fun r w' => r = .returned (.string (bs (par (decide (((tightK (kindAt L i) : Nat) : Int) < m)) (tl L i)))) ∧ Below w.heap.size w w' := by
 have HC := zz (h v w hr hw); have HR := zz hr; have HL := zz hlen; obtain ⟨p, c, rfl, h1, h2, h3, h4, h5, h6⟩ := hr
 have HLC : Hid (∃ b o, p = some ⟨b, o, none⟩ ∧ w.cell? ⟨b, o + i * 6, none⟩ = some (.int .i64 (kindAt L i))) := zz (by
  rcases h6 with h6 | ⟨b, o, hp, ha⟩
  ·rw [h6] at h3; simp at h3; omega
  ·refine ⟨b, o, hp, ha (i * 6) _ ?_⟩
   have := rwC_at (c := ndC) (k := 6) (fun _ => rfl) hi (j := 0) (by omega); rw [Nat.add_zero] at this; rw [this]
   unfold kindAt
   rw [List.getElem?_eq_getElem hi]
   rfl)
 obtain ⟨b, o, rfl, hcell⟩ := HLC.o; have HCELL := zz hcell; have HBX := zz hb; have i0 : (0 : Int) ≤ (i : Int) := by omega
 have i1 : (i : Int) < (L.length : Int) := by omega
 obtain ⟨tk, htk⟩ : ∃ tk : Int, tk = ((tightK (kindAt L i) : Nat) : Int) := ⟨_, rfl⟩; have HTK : Hid (∀ wx, Calls Tryz.prog 90 #[.int .i64 (kindAt L i)] wx fun r w' => r = .returned (.int .i64 tk) ∧ w' = wx) := zz (fun wx => by rw [htk]; exact tight_any _ wx); rw [← htk]; clear htk; obtain ⟨t, ht⟩ : ∃ t, t = tl L i := ⟨_, rfl⟩; rw [← ht]; rw [← ht] at HL HC; clear ht; clear h hw hlen h1 h2 h3 h4 h5 h6 HLC hcell; go_enter Tryz.func89, Tryz.ntmps89; go_upto_region 2 with (go_at_call 65; refine HC.o.mono ?_; rintro r w2 ⟨rfl, hb2⟩; have HB2 := zz hb2; clear hb2); have c1 : w2.cell? ⟨bx, 0, none⟩ = some (.slice (some ⟨b, o, none⟩) L.length c) := by rw [HB2.o.cell (p := ⟨bx, 0, none⟩) (World.block_lt_of_cell? w _ HBX.o)]; exact HBX.o
 have c2 : w2.cell? ⟨b, o + i * 6, none⟩ = some (.int .i64 (kindAt L i)) := by rw [HB2.o.cell (p := ⟨b, o + i * 6, none⟩) (World.block_lt_of_cell? w _ HCELL.o)]; exact HCELL.o
 by_cases hlt : tk < m
 ·have hadd1 : ∀ w, (Op.stringOp .add ⟨#[40]⟩ (bs t)).run Tryz.prog w = .ok (.string (bs (40 :: t))) w := fun w => add_bs [40] t (by have := HL.o; simp; omega) w
  have hadd2 : ∀ w, (Op.stringOp .add (bs (40 :: t)) ⟨#[41]⟩).run Tryz.prog w = .ok (.string (bs (40 :: (t ++ [41])))) w := fun w => add_bs (40 :: t) [41] (by have := HL.o; simp; omega) w
  have HPT : Hid (bs (par (decide (tk < m)) t) = bs (40 :: (t ++ [41]))) := zz (by rw [decide_eq_true hlt, par_true]); have t1 : decide (tk < m) = true := decide_eq_true hlt; go_wp2_with (go_at_call 90; refine (HTK.o _).mono ?_; rintro r w3 ⟨rfl, rfl⟩); go_ret; exact ⟨by rw [HPT.o]; rfl, HB2.o⟩
 ·have HPT : Hid (bs (par (decide (tk < m)) t) = bs t) := zz (by rw [decide_eq_false hlt, par_false])
  have t1 : decide (tk < m) = false := decide_eq_false hlt; go_wp2_with (go_at_call 90; refine (HTK.o _).mono ?_; rintro r w3 ⟨rfl, rfl⟩); go_ret; exact ⟨by rw [HPT.o]; rfl, HB2.o⟩
end Go.Proofs.YtdemkfhkibmbnaaGreatDoor.Ru
namespace Go.Proofs.YtdemkfhkibmbnaaGreatDoor
open Go.RowKit Go
section
variable {P : Program}
end
section
variable {P : Program}
theorem lastQ_start {M : List Oper} {o : Oper} {Q : Exit → Act → World → Prop} {a : Act} {w : World} (h : wpList P (M ++ [o]).toArray Q [o] a w) : popQ P (M ++ [o]).toArray Q M.length .normal a w := by
 have g1 : (M ++ [o]).toArray[M.length]? = some o := by simp
 show wpOp P (M ++ [o]).toArray Q M.length (fun a' w' => Q .normal a' w') a w
 unfold wpOp
 rw [g1]; exact h
def LastQ (P : Program) (L M : List Oper) (Q : Exit → Act → World → Prop) : Exit → Act → World → Prop := popQ P L.toArray Q M.length
theorem LastQ.start {L M : List Oper} {o : Oper} {Q : Exit → Act → World → Prop} {a : Act} {w : World} (hL : cut1 L = some (M, o)) (h : wpList P L.toArray Q [o] a w) : LastQ P L M Q .normal a w := by
 have hL' := cut1_spec hL; subst hL'; exact lastQ_start h
theorem wp_region_lastH {id : Nat} {Q : Exit → Act → World → Prop} {a : Act} {w : World} {L M : List Oper} {o : Oper} (S : World → Prop) (n : Nat) (hL : cut1 L = some (M, o)) (hMn : M.length = n) (hm : P.follows .mixedOrders = true) (hp : popB L.toArray = true) (hS : S w.drew)
  (h : S w.drew → wpAnyH P .any M.toArray (LastQ P L M Q) S n (Array.replicate n false) a w.drew) : (Code.region id L.toArray true).wp P Q a w := by
 have hL' := cut1_spec hL; subst hL'; subst hMn; refine wp_region_pop (S := S) hm hp ?_; have hn : (M ++ [o]).toArray.size - 1 = M.length := by simp
 have hpop : (M ++ [o]).toArray.pop = M.toArray := by simp
 rw [hn, hpop]; exact h hS
end
end Go.Proofs.YtdemkfhkibmbnaaGreatDoor
namespace Go.Proofs.YtdemkfhkibmbnaaGreatDoor.Ru
open Go.RowKit Go.Proofs.YtdemkfhkibmbnaaGreatDoor
theorem info_nd : (Tryz.prog.info? 69).map (fun i => (i.zero, i.size, i.bytes)) = some (some (.agg #[.int .i64 0, .string ⟨#[]⟩, .string ⟨#[]⟩, .int .i64 0, .int .i64 0, .int .i64 0]), 6, 64) := by kernel_rfl
def NodeS (base : Nat) (w w' : World) (b : Nat) (s : ByteArray) (k : Nat) (d n : Int) (v : Value) (L : List Nd) : Prop :=
 ∃ v', Prs base w' b s k d n v' L 0 0 ∧ Frp (fun j => j = b ∨ v.ownBlock = some j) w w' ∧ ∀ q, v'.ownBlock = some q → v.ownBlock = some q ∨ w.heap.size ≤ q
theorem node_bad (base b : Nat) (s : ByteArray) (k : Nat) (d n : Int) (v : Value) (L : List Nd) (e a : Int) (x : Nd) (w : World) (h : Prs base w b s k d n v L e a) (he : e ≠ 0) :
  Calls Tryz.prog 118 #[ptr b, ndV x] w fun r w' => r = .returned (.int .i64 (-1)) ∧ Prs base w' b s k d n v L e a ∧ Onb b w w' := by
 obtain ⟨w1, hw1⟩ : ∃ w1, w1 = w.alloc (.cells #[.int .i64 x.k, .string (bs x.nm), .string (bs x.vl), .int .i64 x.x, .int .i64 x.a, .int .i64 x.b] 69) := ⟨_, rfl⟩; obtain ⟨B, hB⟩ : ∃ B, B = w.heap.size := ⟨_, rfl⟩; have hbl : Below w.heap.size w w1 := by rw [hw1]; exact below_alloc w _
 have H1 := zz (h.kept hbl); have HO1 : Hid (Onb b w w1) := zz (Frp.of_below hbl _); have c5 := H1.o.c5; have c6 := H1.o.c6; have t1 : (e == 0) = false := by simpa using he
 clear h hbl he; go_enter Tryz.func118, Tryz.ntmps118; go_upto_region 1 with fail; rw [← hw1, ← hB]; clear hw1 hB; go_wp2; go_ret; exact ⟨rfl, H1.o, HO1.o⟩
theorem node_ok (base b : Nat) (s : ByteArray) (k : Nat) (d n : Int) (v : Value) (L : List Nd) (x : Nd) (w : World) (h : Prs base w b s k d n v L 0 0) (hl : L.length ≤ 1000) (hbase : base ≤ w.heap.size) :
  Calls Tryz.prog 118 #[ptr b, ndV x] w fun r w' => r = .returned (.int .i64 (L.length : Int)) ∧ NodeS base w w' b s k d n v (L ++ [x]) := by
 obtain ⟨ix, hi, hz0, hz1, hz2⟩ := info_parts info_nd; obtain ⟨w1, hw1⟩ : ∃ w1, w1 = w.alloc (.cells #[.int .i64 x.k, .string (bs x.nm), .string (bs x.vl), .int .i64 x.x, .int .i64 x.a, .int .i64 x.b] 69) := ⟨_, rfl⟩; obtain ⟨B, hB⟩ : ∃ B, B = w.heap.size := ⟨_, rfl⟩; have hbl : Below w.heap.size w w1 := by rw [hw1]; exact below_alloc w _
 have X1 : Hid (Blk w1 B (ndC x) 69) := zz (by rw [hw1, hB]; exact Blk.made w (ndC x) _); have H1 := zz (h.kept hbl); have HBL := zz hbl; have HVB : Hid (∀ q, v.ownBlock = some q → q < B) := zz (fun q hq => by rw [hB]; exact own_hi h.own hq); have HB0 : Hid (b < B) := zz (by rw [hB]; exact h.blk.lt); have HBW : Hid (B = w.heap.size) := zz hB; have HBS := zz hbase; have HL := zz hl; have c5 := H1.o.c5; have c6 := H1.o.c6; have HSS : Hid (∀ w', Below w1.heap.size w1 w' → w'.cell? ⟨b, 4, none⟩ = some v ∧ w'.cell? ⟨B, 0, none⟩ = some (.int .i64 x.k) ∧ w'.cell? ⟨B, 1, none⟩ = some (.string (bs x.nm)) ∧ w'.cell? ⟨B, 2, none⟩ = some (.string (bs x.vl)) ∧ w'.cell? ⟨B, 3, none⟩ = some (.int .i64 x.x) ∧ w'.cell? ⟨B, 4, none⟩ = some (.int .i64 x.a) ∧ w'.cell? ⟨B, 5, none⟩ = some (.int .i64 x.b)) := zz (fun w' hb => ⟨(H1.o.kept hb).c4, (X1.o.kept hb).cell (j := 0) rfl, (X1.o.kept hb).cell (j := 1) rfl, (X1.o.kept hb).cell (j := 2) rfl, (X1.o.kept hb).cell (j := 3) rfl, (X1.o.kept hb).cell (j := 4) rfl, (X1.o.kept hb).cell (j := 5) rfl⟩); clear h hbl hl hbase; go_enter Tryz.func118, Tryz.ntmps118; go_upto_region 1 with fail
 rw [← hw1, ← hB]; clear hw1 hB; go_upto_region 3 with fail; clear c5 c6; refine wp_region_noPanic ?_; refine wp_region_lastH (fun w' => w'.cell? ⟨b, 4, none⟩ = some v ∧ w'.cell? ⟨B, 0, none⟩ = some (.int .i64 x.k) ∧ w'.cell? ⟨B, 1, none⟩ = some (.string (bs x.nm)) ∧ w'.cell? ⟨B, 2, none⟩ = some (.string (bs x.vl)) ∧ w'.cell? ⟨B, 3, none⟩ = some (.int .i64 x.x) ∧ w'.cell? ⟨B, 4, none⟩ = some (.int .i64 x.a) ∧ w'.cell? ⟨B, 5, none⟩ = some (.int .i64 x.b)) 10 rfl rfl (by kernel_rfl) (by kernel_rfl) (HSS.o _ (below_drewN 1)) (fun hHeld => ?_); have HB2 : Hid (Below w1.heap.size w1 w1.drew) := zz (below_drewN 1); obtain ⟨w2, hw2⟩ : ∃ xq, xq = w1.drew := ⟨_, rfl⟩; rw [← hw2] at hHeld HB2 ⊢; clear hw2; refine wpAnyH_take (i := 0) (v := ?v1) rfl (by kernel_rfl) (by kernel_rfl) (by kernel_rfl) (fun _ _ _ h => h) (Or.inl ⟨by rfl, ?hy1⟩) (by assumption) ?rest1
 case hy1 => (intro _ hSw; (try dsimp only at hSw); go_simp; (try with_reducible rfl))
 (try simp only [Act.put]); (try simp only [List.setIfInBounds_toArray]); (try simp only [List.set_cons_succ]); (try simp only [List.set_cons_zero])
 refine wpAnyH_take (i := 1) (v := ?v2) rfl (by kernel_rfl) (by kernel_rfl) (by kernel_rfl) (fun _ _ _ h => h) (Or.inl ⟨by rfl, ?hy2⟩) (by assumption) ?rest2
 case hy2 => (intro _ hSw; (try dsimp only at hSw); go_simp; (try with_reducible rfl))
 (try simp only [Act.put]); (try simp only [List.setIfInBounds_toArray]); (try simp only [List.set_cons_succ]); (try simp only [List.set_cons_zero])
 refine wpAnyH_take (i := 2) (v := ?v3) rfl (by kernel_rfl) (by kernel_rfl) (by kernel_rfl) (fun _ _ _ h => h) (Or.inl ⟨by rfl, ?hy3⟩) (by assumption) ?rest3
 case hy3 => (intro _ hSw; (try dsimp only at hSw); go_simp; (try with_reducible rfl))
 (try simp only [Act.put]); (try simp only [List.setIfInBounds_toArray]); (try simp only [List.set_cons_succ]); (try simp only [List.set_cons_zero])
 refine wpAnyH_take (i := 3) (v := ?v4) rfl (by kernel_rfl) (by kernel_rfl) (by kernel_rfl) (fun _ _ _ h => h) (Or.inl ⟨by rfl, ?hy4⟩) (by assumption) ?rest4
 case hy4 => (intro _ hSw; (try dsimp only at hSw); go_simp; (try with_reducible rfl))
 (try simp only [Act.put]); (try simp only [List.setIfInBounds_toArray]); (try simp only [List.set_cons_succ]); (try simp only [List.set_cons_zero])
 refine wpAnyH_take (i := 4) (v := ?v5) rfl (by kernel_rfl) (by kernel_rfl) (by kernel_rfl) (fun _ _ _ h => h) (Or.inl ⟨by rfl, ?hy5⟩) (by assumption) ?rest5
 case hy5 => (intro _ hSw; (try dsimp only at hSw); go_simp; (try with_reducible rfl))
 (try simp only [Act.put]); (try simp only [List.setIfInBounds_toArray]); (try simp only [List.set_cons_succ]); (try simp only [List.set_cons_zero])
 refine wpAnyH_take (i := 5) (v := ?v6) rfl (by kernel_rfl) (by kernel_rfl) (by kernel_rfl) (fun _ _ _ h => h) (Or.inl ⟨by rfl, ?hy6⟩) (by assumption) ?rest6
 case hy6 => (intro _ hSw; (try dsimp only at hSw); go_simp; (try with_reducible rfl))
 (try simp only [Act.put]); (try simp only [List.setIfInBounds_toArray]); (try simp only [List.set_cons_succ]); (try simp only [List.set_cons_zero])
 (try simp only [List.getElem_toArray]); (try simp only [List.getElem_cons_succ]); (try simp only [List.getElem_cons_zero]); (try simp only [List.setIfInBounds_toArray]); (try simp only [List.set_cons_succ, List.set_cons_zero])
 refine wpAnyH_ready (rs := [6]) (by kernel_rfl) (by simp) ?_; refine (AllReadyH.cons rfl (fun K hK => ?_) AllReadyH.nil)
 (try simp only [List.getElem_toArray]); (try simp only [List.getElem_cons_succ]); (try simp only [List.getElem_cons_zero])
 go_simp; obtain ⟨w3, hw3⟩ : ∃ xq, xq = w2.alloc (.cells #[.int .i64 x.k, .string (bs x.nm), .string (bs x.vl), .int .i64 x.x, .int .i64 x.a, .int .i64 x.b] 69) := ⟨_, rfl⟩; obtain ⟨z3, hz3⟩ : ∃ xq, xq = w2.heap.size := ⟨_, rfl⟩; have hb3 : Below w1.heap.size w1 w3 := by rw [hw3]; exact below_and HB2.o (below_alloc _ _)
 have HY3 : Hid (Blk w3 z3 (ndC x) 69) := zz (by rw [hw3, hz3]; exact Blk.made w2 (ndC x) _); have HB3 := zz hb3; rw [← hw3, ← hz3]; refine hK.out _ _ (HSS.o _ hb3) (fun hS3 => ?_); clear hK K hb3 hw3 hz3
 (try simp only [Act.put]); (try simp only [List.setIfInBounds_toArray]); (try simp only [List.set_cons_succ]); (try simp only [List.set_cons_zero])
 have HO3 := zz (H1.o.kept HB3.o).own; have HW3 : Hid (base ≤ w3.heap.size) := zz (by have h1 := HBS.o; have h2 := HBL.o.size; have h3 := HB3.o.size; omega); refine wpAnyH_ready (rs := [7]) (by kernel_rfl) (by simp) ?_; refine (AllReadyH.cons rfl (fun K hK => ?_) AllReadyH.nil); refine step_app rfl (.tmp 15) (.tmp 17) 24 24 rfl base 69 ix (.agg #[.int .i64 0, .string ⟨#[]⟩, .string ⟨#[]⟩, .int .i64 0, .int .i64 0, .int .i64 0]) 6 64 Tryz.underlying24 hi hz0 hz1 hz2 rfl v L.length (rwC ndC L) (by rfl) HO3.o (.slice (some ⟨z3, 0, none⟩) 1 1) 1 (ndC x) (by rfl) (src_block Tryz.underlying24 _ z3 (ndC x).toArray HY3.o rfl (ndC_one x)) (by have := HL.o; unfold maxLen; omega) (by have := HL.o; omega) HW3.o ?_; intro v4 w4 ho4 hg4 hn4 hk4; have HO4 : Hid (w4.ownsRow base 69 6 v4 (L ++ [x]).length (rwC ndC (L ++ [x]))) := zz (by rw [rwC_snoc, List.length_append]; exact ho4); have HF4 : Hid (Frp (fun j => v.ownBlock = some j) w1 w4) := zz ((Frp.of_below HB3.o _).grown hg4 (fun q hq => .inl hq)); have HP4 : Hid (Blk w4 b [.string s, .int .i64 (k : Int), .int .i64 d, .int .i64 n, v, .int .i64 0, .int .i64 0] 115) := zz (H1.o.blk.frp HF4.o H1.o.nb)
 have HX4 : Hid (Blk w4 B (ndC x) 69) := zz (X1.o.frp HF4.o (fun hq => by have := HVB.o _ hq; omega))
 have HN4 : Hid (∀ q, v4.ownBlock = some q → v.ownBlock = some q ∨ w.heap.size ≤ q) := zz (fun q hq => by
  rcases hk4 q hq with h1 | h1
  ·exact .inl h1
  ·have h2 := HBL.o.size; have h3 := HB3.o.size; exact .inr (by omega))
 refine hK.out _ _ ⟨HP4.o.cell (j := 4) rfl, HX4.o.cell (j := 0) rfl, HX4.o.cell (j := 1) rfl, HX4.o.cell (j := 2) rfl, HX4.o.cell (j := 3) rfl, HX4.o.cell (j := 4) rfl, HX4.o.cell (j := 5) rfl⟩ (fun hS4 => ?_); clear hK K ho4 hg4 hn4 hk4
 (try simp only [Act.put]); (try simp only [List.setIfInBounds_toArray]); (try simp only [List.set_cons_succ]); (try simp only [List.set_cons_zero])
 refine wpAnyH_take (i := 8) (v := ?v7) rfl (by kernel_rfl) (by kernel_rfl) (by kernel_rfl) (fun _ _ _ h => h) (Or.inl ⟨by rfl, ?hy7⟩) (by assumption) ?rest7
 case hy7 => (intro _ hSw; (try dsimp only at hSw); go_simp; (try with_reducible rfl))
 (try simp only [Act.put]); (try simp only [List.setIfInBounds_toArray]); (try simp only [List.set_cons_succ]); (try simp only [List.set_cons_zero])
 refine wpAnyH_take (i := 9) (v := ?v8) rfl (by kernel_rfl) (by kernel_rfl) (by kernel_rfl) (fun _ _ _ h => h) (Or.inl ⟨by rfl, ?hy8⟩) (by assumption) ?rest8
 case hy8 => (intro _ hSw; (try dsimp only at hSw); go_simp; (try with_reducible rfl))
 (try simp only [Act.put]); (try simp only [List.setIfInBounds_toArray]); (try simp only [List.set_cons_succ]); (try simp only [List.set_cons_zero])
 refine wpAnyH_done (by kernel_rfl) ?_ _; refine LastQ.start rfl ?_; clear hHeld hS3 hS4; have hne : v4.ownBlock ≠ some b := own_ty HO4.o HP4.o (by decide); have HNE := zz hne; clear hne; obtain ⟨p4, q4, hv4, -, hm4⟩ := own_slice HO4.o; have HPR : Hid (Prs base (w4.setCell ⟨b, 4, none⟩ v4) b s k d n v4 (L ++ [x]) 0 0) := zz ⟨HP4.o.set 4 v4, own_other HO4.o (p := ⟨b, 4, none⟩) HNE.o _, H1.o.hb, H1.o.kb, H1.o.sz⟩; have HFF : Hid (Frp (fun j => j = b ∨ v.ownBlock = some j) w (w4.setCell ⟨b, 4, none⟩ v4)) := zz (((Frp.of_below HBL.o _).then (HF4.o.mono (fun q hq => .inr hq))).set (p := ⟨b, 4, none⟩) (.inl rfl) v4); have d4 := HP4.o.cell (j := 4) rfl; have f4 := HP4.o.free 4; have hlen : (L ++ [x]).length = L.length + 1 := by simp
 rw [hlen] at hv4; have hl2 : (L.length : Int) ≤ 1000 := by have := HL.o; omega
 rw [hv4] at HPR HFF HNE HN4 ⊢; have hml : maxLen ≤ 9223372036854775807 := by decide
 clear hv4 HO4 hlen; go_wp2; refine NoPanic.normal ?_; have c4 := HPR.o.c4; have u1 : IntKind.i64.wrap ((L.length : Int) + 1 - 1) = (L.length : Int) := by rw [IntKind.wrap_i64]; omega
 go_wp2; go_ret; exact ⟨by simp, _, HPR.o, HFF.o, HN4.o⟩
def Out (base : Nat) (w w' : World) (b : Nat) (s : ByteArray) (d : Int) (R : PR) (r : Ending) : Prop :=
 match R with
 | .ok q => r = .returned (.int .i64 q.1) ∧ (∃ k' v', q.2.r = rest s k' ∧ Prs base w' b s k' d q.2.n v' q.2.L 0 0) ∧ Below base w w'
 | .error e => (∃ j : Int, r = .returned (.int .i64 j)) ∧ (∃ k' d' n' v' L', Prs base w' b s k' d' n' v' L' e.1 e.2) ∧ Below base w w'
theorem onb_below {base : Nat} {w w' : World} {b : Nat} (h : Onb b w w') (hb : base ≤ b) (hw : base ≤ w.heap.size) : Below base w w' := Frp.below h (fun k hk => by rw [hk]; exact hb) hw
theorem out_err {base : Nat} {w w' : World} {b : Nat} {s : ByteArray} {d : Int} {R : PR} {e a : Int} (hR : R = .error (e, a)) {k' : Nat} {d' n' : Int} {v' : Value} {L' : List Nd} (h : Prs base w' b s k' d' n' v' L' e a) (hb : Below base w w') (j : Int) : Out base w w' b s d R (.returned (.int .i64 j)) := by
 rw [hR]; exact ⟨⟨j, rfl⟩, ⟨k', d', n', v', L', h⟩, hb⟩
theorem out_ok {base : Nat} {w w' : World} {b : Nat} {s : ByteArray} {d : Int} {R : PR} {i : Int} {n' k' : Nat} {L' : List Nd} {v' : Value} (hR : R = .ok (i, ⟨n', L', rest s k'⟩)) (h : Prs base w' b s k' d n' v' L' 0 0) (hb : Below base w w') : Out base w w' b s d R (.returned (.int .i64 i)) := by
 rw [hR]; exact ⟨rfl, ⟨k', v', rfl, h⟩, hb⟩
theorem at_hide {Q F : World → Prop} {w : World} (hf : F w) (h : ∀ w', F w' → Q w') : Q w := h w hf
theorem Prs.off {base : Nat} {w : World} {b : Nat} {s : ByteArray} {k : Nat} {d n : Int} {v : Value} {L : List Nd} {e a : Int} (h : Prs base w b s k d n v L e a) {Y : Nat} (hY : Y ≠ b) (hv : v.ownBlock ≠ some Y) (i : Nat) (u : Value) : Prs base (w.setCell ⟨Y, i, none⟩ u) b s k d n v L e a :=
 ⟨h.blk.other (a := ⟨Y, i, none⟩) (Ne.symm hY) u, own_other h.own (p := ⟨Y, i, none⟩) hv u, h.hb, h.kb, h.sz⟩
theorem hd_rest {s : ByteArray} {k : Nat} (hk : k < s.size) (p : UInt8 → Bool) : hd p (rest s k) = p s[k] := by
 rw [rest_at hk]; rfl
theorem hd_end {s : ByteArray} (p : UInt8 → Bool) : hd p (rest s s.size) = false := by rw [rest_end]; rfl
theorem isB_skip {s p : ByteArray} {k : Nat} (hk : k ≤ s.size) : isB s p (skip s k) = isB s p k ∧ isK s p (skip s k) = isK s p k := by
 obtain ⟨-, -, h3, -, -⟩ := skip_is hk; have h1 : isB s p (skip s k) = isB s p k := by unfold isB; rw [← h3, blk_blk]
 exact ⟨h1, by unfold isK; rw [h1, skip_skip hk]⟩
theorem isB_strip {s p : ByteArray} {k : Nat} (hk : k ≤ s.size) : isB s p k = (strip p.data.toList (rest s (skip s k))).isSome := by
 obtain ⟨-, -, h3, -, -⟩ := skip_is hk
 unfold isB
 rw [h3]
theorem strip_no {s p : ByteArray} {k : Nat} (hk : k ≤ s.size) (h : isB s p k = false) : strip p.data.toList (rest s (skip s k)) = none ∧ isK s p k = skip s k := by
 rw [isB_strip hk] at h; refine ⟨by simpa using h, ?_⟩
 unfold isK
 rw [isB_strip hk, h]; rfl
theorem strip_yes {s p : ByteArray} {k : Nat} (hk : k ≤ s.size) (h : isB s p k = true) : strip p.data.toList (rest s (skip s k)) = some (rest s (isK s p k)) ∧ isK s p k ≤ s.size := by
 obtain ⟨g1, g2, -⟩ := is_facts (p := p) hk; obtain ⟨-, -, h3, -, -⟩ := skip_is hk; have := g2 h; rw [h3] at this; exact ⟨this, g1⟩
theorem leafP_bad {s : ByteArray} {k n : Nat} {L : List Nd} (hk : k ≤ s.size) (h : hd lo (rest s k) = false) : leafP s.size ⟨n, L, rest s k⟩ = .error (5, (k : Int)) := by
 unfold leafP
 rw [if_pos h, pos_rest hk]
section
variable {s : ByteArray} {k n k1 : Nat} {L : List Nd} {nm : List UInt8}
theorem leafP_any (h : hd lo (rest s k) = true) (hnm : nm = run 24 nmc (rest s k)) (hk1 : k1 = k + nm.length) (ha : nm = anyT) (hm : hd wdc (rest s k1) = false) (hk : k ≤ s.size) :
  leafP s.size ⟨n, L, rest s k⟩ = if 64 < n + 1 then .error (3, (k : Int)) else .ok (put (n + 1) L (rest s k1) ⟨1, [], [], 0, -1, -1⟩) := by
 have hr : (rest s k).drop (run 24 nmc (rest s k)).length = rest s k1 := by rw [← hnm, rest_drop, hk1]
 unfold leafP
 simp only
 rw [if_neg (by rw [h]; simp), hr, ← hnm, if_pos ⟨ha, hm⟩, pos_rest hk]
theorem leafP_more (h : hd lo (rest s k) = true) (hnm : nm = run 24 nmc (rest s k)) (hk1 : k1 = k + nm.length) (hm : hd wdc (rest s k1) = true) (hk : k1 ≤ s.size) :
  leafP s.size ⟨n, L, rest s k⟩ = .error (5, (k1 : Int)) := by
 have hr : (rest s k).drop (run 24 nmc (rest s k)).length = rest s k1 := by rw [← hnm, rest_drop, hk1]
 unfold leafP
 simp only
 rw [if_neg (by rw [h]; simp), hr, ← hnm, if_neg (by rw [hm]; simp), if_pos hm, pos_rest hk]
theorem leafP_else (h : hd lo (rest s k) = true) (hnm : nm = run 24 nmc (rest s k)) (hk1 : k1 = k + nm.length) (ha : nm ≠ anyT) (hm : hd wdc (rest s k1) = false) (hk : k ≤ s.size) (hkk : k1 ≤ s.size) :
  leafP s.size ⟨n, L, rest s k⟩ = if 64 < n + 1 then .error (3, (k : Int)) else opP s.size (n + 1) L nm (rest s (skip s k1)) := by
 have hr : (rest s k).drop (run 24 nmc (rest s k)).length = rest s k1 := by rw [← hnm, rest_drop, hk1]
 obtain ⟨-, -, h3, -, -⟩ := skip_is hkk
 unfold leafP
 simp only
 rw [if_neg (by rw [h]; simp), hr, ← hnm, if_neg (by simp [ha]), if_neg (by rw [hm]; simp), pos_rest hk, h3]
end
theorem told_step (L : List Nd) (hf : Fine L) (i : Nat) (hi : i < L.length) (W : World → Prop) (hW : ∀ w w', W w → Below w.heap.size w w' → W w') (hT : ∀ w, W w → Tab w) (ih : ∀ j, j < i → ToldC L j W) (hlen : ∀ j, j < L.length → (tl L j).length ≤ 1000000000000000000) (hc : ∀ n ∈ L, n.nm.length ≤ 1000000000000000 ∧ n.vl.length ≤ 1000000000000000 ∧ -9223372036854775808 ≤ n.x ∧ n.x ≤ 9223372036854775807) : ToldC L i W := by
 unfold ToldC
 intro v w hr hw; have HR := zz hr; have HWW := zz hw; obtain ⟨n, hn⟩ : ∃ n, n = L[i] := ⟨_, rfl⟩; obtain ⟨p, c, rfl, h1, h2, h3, h4, h5, h6⟩ := hr
 have HLC : Hid (∃ b o, p = some ⟨b, o, none⟩ ∧ ∀ j u, (ndC n)[j]? = some u → w.cell? ⟨b, o + i * 6 + j, none⟩ = some u) := zz (by
  rcases h6 with h6 | ⟨b, o, hp, ha⟩
  ·rw [h6] at h3; simp at h3; omega
  ·refine ⟨b, o, hp, fun j u hj => ?_⟩
   rw [Nat.add_assoc]; refine ha (i * 6 + j) u ?_
   have hj6 : j < 6 := by
    have := (List.getElem?_eq_some_iff.1 hj).1
    rwa [ndC_len] at this
   rw [rwC_at (c := ndC) (k := 6) (fun _ => rfl) hi hj6, ← hn]
   exact hj)
 obtain ⟨b, o, rfl, hcell⟩ := HLC.o; have HCELL := zz hcell; have q0 := hcell 0 _ rfl; rw [Nat.add_zero] at q0; have q1 := hcell 1 _ rfl; have q2 := hcell 2 _ rfl; have q3 := hcell 3 _ rfl; have q4 := hcell 4 _ rfl; have q5 := hcell 5 _ rfl; have HN := zz hn; have i0 : (0 : Int) ≤ (i : Int) := by omega
 have i1 : (i : Int) < (L.length : Int) := by omega
 obtain ⟨w1, hw1⟩ : ∃ w1, w1 = w.alloc (.cells #[.slice (some ⟨b, o, none⟩) L.length c] 24) := ⟨_, rfl⟩; obtain ⟨t, ht⟩ : ∃ t, t = tl L i := ⟨_, rfl⟩; rw [← ht]; have HT := zz ht; clear ht; clear hw h1 h2 h3 h4 h5 h6 HLC hcell hn; go_enter Tryz.func65, Tryz.ntmps65; go_upto_region 1 with fail; rw [← hw1]; have HB1 : Hid (Below w.heap.size w w1) := zz (by rw [hw1]; exact below_alloc _ _); have HX1 : Hid (w1.cell? ⟨w.heap.size, 0, none⟩ = some (.slice (some ⟨b, o, none⟩) L.length c)) := zz (by rw [hw1]; exact (Blk.made w [_] 24).cell (j := 0) rfl); obtain ⟨bx, hbx⟩ : ∃ bx, bx = w.heap.size := ⟨_, rfl⟩; rw [← hbx] at HX1 ⊢; have HBX := zz hbx; have x0 := HX1.o
 replace q0 := (HB1.o.cell (World.block_lt_of_cell? w _ q0)).trans q0
 replace q1 := (HB1.o.cell (World.block_lt_of_cell? w _ q1)).trans q1
 replace q2 := (HB1.o.cell (World.block_lt_of_cell? w _ q2)).trans q2
 replace q3 := (HB1.o.cell (World.block_lt_of_cell? w _ q3)).trans q3
 replace q4 := (HB1.o.cell (World.block_lt_of_cell? w _ q4)).trans q4
 replace q5 := (HB1.o.cell (World.block_lt_of_cell? w _ q5)).trans q5
 clear hw1 hbx; go_upto_region 3 with fail; refine at_hide (F := fun w' => w'.cell? ⟨bx, 0, none⟩ = some (.slice (some ⟨b, o, none⟩) L.length c) ∧ Blk w' w1.heap.size (ndC n) 69 ∧ Below w.heap.size w w') ⟨((below_alloc w1 _).cell (World.block_lt_of_cell? w1 _ HX1.o)).trans HX1.o, Blk.made w1 (ndC n) _, below_and HB1.o (below_alloc _ _)⟩ ?_; intro w2 hF; obtain ⟨Y, hY⟩ : ∃ Y, Y = w1.heap.size := ⟨_, rfl⟩; rw [← hY] at hF ⊢; have HX2 := zz hF.1; have HY2 := zz hF.2.1; have HB2 := zz hF.2.2; have HR2 : Hid (Row w2 (.slice (some ⟨b, o, none⟩) L.length c) 6 L.length (rwC ndC L)) := zz (HR.o.below HB2.o); have HW2 : Hid (W w2) := zz (hW _ _ HWW.o HB2.o); have HEQ := zz (tl_eq hf (List.getElem?_eq_getElem hi)); have HPA := zz (hf i _ (List.getElem?_eq_getElem hi)); rw [← HN.o] at HEQ HPA; have HNL := zz (hc n (by rw [HN.o]; exact List.getElem_mem hi)); clear hF hY x0 q0 q1 q2 q3 q4 q5 HX1 HB1; obtain ⟨y0, y1, y2, y3, y4, y5⟩ := cl6 HY2.o; obtain ⟨k, nm, vl, x, na, nb⟩ := n; simp only at y0 y1 y2 y3 y4 y5 HEQ HNL HY2
 by_cases k1 : k = 1
 ·subst k1
  go_wp2; go_ret; exact ⟨by rw [HT.o, HEQ.o]; rfl, HB2.o⟩
 by_cases k2 : k = 2
 ·subst k2
  have hadd1 : ∀ w, (Op.stringOp .add (bs nm) ⟨#[61]⟩).run Tryz.prog w = .ok (.string (bs (nm ++ [61]))) w := fun w => add_bs nm [61] (by have := HNL.o; simp; omega) w
  have hadd2 : ∀ w, (Op.stringOp .add (bs (nm ++ [61])) (bs vl)).run Tryz.prog w = .ok (.string (bs (nm ++ [61] ++ vl))) w := fun w => add_bs (nm ++ [61]) vl (by have := HNL.o; simp; omega) w
  have HTT : Hid (bs t = bs (nm ++ 61 :: vl)) := zz (by rw [HT.o, HEQ.o]; simp [ltx]); clear k1; go_wp2; go_ret; exact ⟨by rw [HTT.o]; rfl, HB2.o⟩
 by_cases k3 : k = 3
 ·subst k3
  have hadd1 : ∀ w, (Op.stringOp .add (bs nm) ⟨#[33, 61]⟩).run Tryz.prog w = .ok (.string (bs (nm ++ [33, 61]))) w := fun w => add_bs nm [33, 61] (by have := HNL.o; simp; omega) w
  have hadd2 : ∀ w, (Op.stringOp .add (bs (nm ++ [33, 61])) (bs vl)).run Tryz.prog w = .ok (.string (bs (nm ++ [33, 61] ++ vl))) w := fun w => add_bs (nm ++ [33, 61]) vl (by have := HNL.o; simp; omega) w
  have HTT : Hid (bs t = bs (nm ++ 33 :: 61 :: vl)) := zz (by rw [HT.o, HEQ.o]; simp [ltx]); clear k1 k2; go_wp2; go_ret; exact ⟨by rw [HTT.o]; rfl, HB2.o⟩
 have b1 : (k == 1) = false := by simpa using k1
 have b2 : (k == 2) = false := by simpa using k2
 have b3 : (k == 3) = false := by simpa using k3
 by_cases k4 : k = 4
 ·subst k4
  clear k1 k2 k3; have HTT : Hid (bs t = bs (nm ++ 62 :: 61 :: Lib.itoa x)) := zz (by rw [HT.o, HEQ.o]; simp [ltx]); have HI : Hid ((Lib.itoa x).length ≤ 21) := zz (Lib.itoa_length_le x HNL.o.2.2.1 HNL.o.2.2.2); have HFM : Hid (∀ s : Past w2, Calls Tryz.prog 91 #[.int .i64 x, .int .i64 10] s.val fun r w' => r = .returned (.string (bs (Lib.itoa x))) ∧ Below s.val.heap.size s.val w') := zz (fun s => format_any x HNL.o.2.2.1 HNL.o.2.2.2 s.val (hT _ (hW _ _ HW2.o s.h))); obtain ⟨u, hu⟩ : ∃ u, u = Lib.itoa x := ⟨_, rfl⟩; rw [← hu] at HTT HI HFM; clear hu; have p1 : ∀ s : Past w2, s.val.cell? ⟨Y, 1, none⟩ = some (.string (bs nm)) := Past.blk HY2.o (j := 1) rfl; have p3 : ∀ s : Past w2, s.val.cell? ⟨Y, 3, none⟩ = some (.int .i64 x) := Past.blk HY2.o (j := 3) rfl
  have hadd1 : ∀ w, (Op.stringOp .add (bs nm) ⟨#[62, 61]⟩).run Tryz.prog w = .ok (.string (bs (nm ++ [62, 61]))) w := fun w => add_bs nm [62, 61] (by have := HNL.o; simp; omega) w
  have hadd2 : ∀ w, (Op.stringOp .add (bs (nm ++ [62, 61])) (bs u)).run Tryz.prog w = .ok (.string (bs (nm ++ [62, 61] ++ u))) w := fun w => add_bs (nm ++ [62, 61]) u (by have := HNL.o; have := HI.o; simp; omega) w
  go_upto_region 11 with fail; refine wp_region_past (by kernel_rfl) (by kernel_rfl) ?_
  repeat (go_big_quiet_step ((go_at_call 91; exact past_call (HFM.o _))))
  refine wpQuiet_nil ?_; intro _ hw'; obtain ⟨s9, hw''⟩ := hw'; subst hw''; go_wp2; go_ret; exact ⟨by rw [HTT.o]; simp, below_and HB2.o s9.h⟩
 have b4 : (k == 4) = false := by simpa using k4
 by_cases k5 : k = 5
 ·subst k5
  clear k1 k2 k3 k4 b1 b2 b3 b4; have HTT : Hid (bs t = bs (nm ++ 60 :: 61 :: Lib.itoa x)) := zz (by rw [HT.o, HEQ.o]; simp [ltx]); have HI : Hid ((Lib.itoa x).length ≤ 21) := zz (Lib.itoa_length_le x HNL.o.2.2.1 HNL.o.2.2.2); have HFM : Hid (∀ s : Past w2, Calls Tryz.prog 91 #[.int .i64 x, .int .i64 10] s.val fun r w' => r = .returned (.string (bs (Lib.itoa x))) ∧ Below s.val.heap.size s.val w') := zz (fun s => format_any x HNL.o.2.2.1 HNL.o.2.2.2 s.val (hT _ (hW _ _ HW2.o s.h))); obtain ⟨u, hu⟩ : ∃ u, u = Lib.itoa x := ⟨_, rfl⟩; rw [← hu] at HTT HI HFM; clear hu; have p1 : ∀ s : Past w2, s.val.cell? ⟨Y, 1, none⟩ = some (.string (bs nm)) := Past.blk HY2.o (j := 1) rfl; have p3 : ∀ s : Past w2, s.val.cell? ⟨Y, 3, none⟩ = some (.int .i64 x) := Past.blk HY2.o (j := 3) rfl
  have hadd1 : ∀ w, (Op.stringOp .add (bs nm) ⟨#[60, 61]⟩).run Tryz.prog w = .ok (.string (bs (nm ++ [60, 61]))) w := fun w => add_bs nm [60, 61] (by have := HNL.o; simp; omega) w
  have hadd2 : ∀ w, (Op.stringOp .add (bs (nm ++ [60, 61])) (bs u)).run Tryz.prog w = .ok (.string (bs (nm ++ [60, 61] ++ u))) w := fun w => add_bs (nm ++ [60, 61]) u (by have := HNL.o; have := HI.o; simp; omega) w
  go_upto_region 13 with fail; refine wp_region_past (by kernel_rfl) (by kernel_rfl) ?_
  repeat (go_big_quiet_step ((go_at_call 91; exact past_call (HFM.o _))))
  refine wpQuiet_nil ?_; intro _ hw'; obtain ⟨s9, hw''⟩ := hw'; subst hw''; go_wp2; go_ret; exact ⟨by rw [HTT.o]; simp, below_and HB2.o s9.h⟩
 have b5 : (k == 5) = false := by simpa using k5
 by_cases k7 : k = 7
 ·subst k7
  clear b1 b2 b3 b4 b5 k1 k2 k3 k4 k5; have hpa := HPA.o na (by simp [parts]); obtain ⟨ja, hja⟩ : ∃ ja : Nat, na = (ja : Int) := ⟨na.toNat, by omega⟩; subst hja; have HJI : Hid (ja < i) := zz (by omega)
  have HTT : Hid (bs t = bs (33 :: par (decide (((tightK (kindAt L ja) : Nat) : Int) < 3)) (tl L ja))) := zz (by
   rw [HT.o, HEQ.o, if_pos rfl, Int.toNat_natCast]
   congr 3
   simp
   omega)
  obtain ⟨u, hu⟩ : ∃ u, u = par (decide (((tightK (kindAt L ja) : Nat) : Int) < 3)) (tl L ja) := ⟨_, rfl⟩; have HU : Hid (u.length ≤ 1000000000000000002) := zz (by rw [hu]; have h1 := par_len (decide (((tightK (kindAt L ja) : Nat) : Int) < 3)) (tl L ja); have h2 := hlen ja (by have := HJI.o; omega); omega); have HP : Hid (Calls Tryz.prog 89 #[.int .i64 (ja : Int), .int .i64 3, ptr bx] w2 fun r w' => r = .returned (.string (bs u)) ∧ Below w2.heap.size w2 w') := zz (by rw [hu]; exact part_any L ja W (ih ja HJI.o) (by have := HJI.o; omega) 3 bx _ w2 HX2.o HR2.o HW2.o (by have := hlen ja (by omega); omega)); rw [← hu] at HTT; clear hu hpa
  have hadd1 : ∀ w, (Op.stringOp .add ⟨#[33]⟩ (bs u)).run Tryz.prog w = .ok (.string (bs (33 :: u))) w := fun w => add_bs [33] u (by have := HU.o; simp; omega) w
  go_wp2_with (go_at_call 89; refine HP.o.mono ?_; rintro r w3 ⟨rfl, hb3⟩; have HB3 : Hid (Below w.heap.size w w3) := zz (below_and HB2.o hb3); clear hb3); go_ret; exact ⟨by rw [HTT.o]; rfl, HB3.o⟩
 have b7 : (k == 7) = false := by simpa using k7
 by_cases k8 : k = 8
 ·subst k8
  clear b1 b2 b3 b4 b5 b7 k1 k2 k3 k4 k5 k7; have hpa := HPA.o na (by simp [parts]); have hpb := HPA.o nb (by simp [parts]); obtain ⟨ja, hja⟩ : ∃ ja : Nat, na = (ja : Int) := ⟨na.toNat, by omega⟩; obtain ⟨jb, hjb⟩ : ∃ jb : Nat, nb = (jb : Int) := ⟨nb.toNat, by omega⟩; subst hja; subst hjb; have HJA : Hid (ja < i) := zz (by omega); have HJB : Hid (jb < i) := zz (by omega); obtain ⟨PL, hPL⟩ : ∃ PL : Int → Int → List UInt8, ∀ (j : Nat) (m : Int), PL (j : Int) m = par (decide (((tightK (kindAt L j) : Nat) : Int) < m)) (tl L j) := ⟨fun j m => par (decide (((tightK (kindAt L j.toNat) : Nat) : Int) < m)) (tl L j.toNat), fun j m => by simp⟩
  have HTT : Hid (bs t = bs (PL ja 2 ++ 32 :: 38 :: 32 :: PL jb 3)) := zz (by
   have ea : decide (tightK (kindAt L ja) < 2) = decide (((tightK (kindAt L ja) : Nat) : Int) < 2) := by congr 1; simp; omega
   have eb : decide (tightK (kindAt L jb) < 3) = decide (((tightK (kindAt L jb) : Nat) : Int) < 3) := by congr 1; simp; omega
   rw [HT.o, HEQ.o]; simp only [Int.toNat_natCast]; rw [ea, eb, ← hPL, ← hPL]
   rfl)
  have HPN : Hid (∀ (j : Nat) (m : Int), j < i → (PL j m).length ≤ 1000000000000000002) := zz (fun j m hj => by rw [hPL]; have h1 := par_len (decide (((tightK (kindAt L j) : Nat) : Int) < m)) (tl L j); have h2 := hlen j (by omega); omega)
  have HAB : Hid (∀ (s : Past w2) (x m : Int), 0 ≤ x → x < (i : Int) → Calls Tryz.prog 89 #[.int .i64 x, .int .i64 m, ptr bx] s.val fun r w' => r = .returned (.string (bs (PL x m))) ∧ Below s.val.heap.size s.val w') := zz (fun s x m h0 h1 => by
   obtain ⟨j, rfl⟩ : ∃ j : Nat, x = (j : Int) := ⟨x.toNat, by omega⟩; rw [hPL]
   exact part_any L j W (ih j (by omega)) (by omega) m bx _ s.val ((s.h.cell (World.block_lt_of_cell? w2 _ HX2.o)).trans HX2.o) (HR2.o.below s.h) (hW _ _ HW2.o s.h) (by have := hlen j (by omega); omega))
  clear hPL; have p4 : ∀ s : Past w2, s.val.cell? ⟨Y, 4, none⟩ = some (.int .i64 (ja : Int)) := Past.blk HY2.o (j := 4) rfl; have p5 : ∀ s : Past w2, s.val.cell? ⟨Y, 5, none⟩ = some (.int .i64 (jb : Int)) := Past.blk HY2.o (j := 5) rfl; have HUA := zz (HPN.o ja 2 HJA.o); have HUB := zz (HPN.o jb 3 HJB.o); obtain ⟨ua, hua⟩ : ∃ ua, ua = PL (ja : Int) 2 := ⟨_, rfl⟩; obtain ⟨ub, hub⟩ : ∃ ub, ub = PL (jb : Int) 3 := ⟨_, rfl⟩
  have hadd1 : ∀ w, (Op.stringOp .add (bs (PL ja 2)) ⟨#[32, 38, 32]⟩).run Tryz.prog w = .ok (.string (bs (ua ++ [32, 38, 32]))) w := fun w => by rw [← hua] at HUA ⊢; exact add_bs ua [32, 38, 32] (by have := HUA.o; simp; omega) w
  have hadd2 : ∀ w, (Op.stringOp .add (bs (ua ++ [32, 38, 32])) (bs (PL jb 3))).run Tryz.prog w = .ok (.string (bs (ua ++ [32, 38, 32] ++ ub))) w := fun w => by rw [← hua] at HUA; rw [← hub] at HUB ⊢; exact add_bs (ua ++ [32, 38, 32]) ub (by have := HUA.o; have := HUB.o; simp; omega) w
  rw [← hua, ← hub] at HTT; clear hua hub hpa hpb HUA HUB; go_upto_region 17 with fail; refine wp_region_past (by kernel_rfl) (by kernel_rfl) ?_
  repeat (go_big_quiet_step ((go_at_call 89; exact past_call (HAB.o _ _ _ (by omega) (by have := HJA.o; have := HJB.o; omega)))))
  refine wpQuiet_nil ?_; intro _ hw'; obtain ⟨s9, hw''⟩ := hw'; subst hw''; go_wp2; go_ret; exact ⟨by rw [HTT.o]; simp, below_and HB2.o s9.h⟩
 have b8 : (k == 8) = false := by simpa using k8
 by_cases k9 : k = 9
 ·subst k9
  clear b1 b2 b3 b4 b5 b7 b8 k1 k2 k3 k4 k5 k7 k8; have hpa := HPA.o na (by simp [parts]); have hpb := HPA.o nb (by simp [parts]); obtain ⟨ja, hja⟩ : ∃ ja : Nat, na = (ja : Int) := ⟨na.toNat, by omega⟩; obtain ⟨jb, hjb⟩ : ∃ jb : Nat, nb = (jb : Int) := ⟨nb.toNat, by omega⟩; subst hja; subst hjb; have HJA : Hid (ja < i) := zz (by omega); have HJB : Hid (jb < i) := zz (by omega); obtain ⟨PL, hPL⟩ : ∃ PL : Int → Int → List UInt8, ∀ (j : Nat) (m : Int), PL (j : Int) m = par (decide (((tightK (kindAt L j) : Nat) : Int) < m)) (tl L j) := ⟨fun j m => par (decide (((tightK (kindAt L j.toNat) : Nat) : Int) < m)) (tl L j.toNat), fun j m => by simp⟩
  have HTT : Hid (bs t = bs (PL ja 1 ++ 32 :: 124 :: 32 :: PL jb 2)) := zz (by
   have ea : decide (tightK (kindAt L ja) < 1) = decide (((tightK (kindAt L ja) : Nat) : Int) < 1) := by congr 1; simp; omega
   have eb : decide (tightK (kindAt L jb) < 2) = decide (((tightK (kindAt L jb) : Nat) : Int) < 2) := by congr 1; simp; omega
   rw [HT.o, HEQ.o]; simp only [Int.toNat_natCast]; rw [ea, eb, ← hPL, ← hPL]
   rfl)
  have HPN : Hid (∀ (j : Nat) (m : Int), j < i → (PL j m).length ≤ 1000000000000000002) := zz (fun j m hj => by rw [hPL]; have h1 := par_len (decide (((tightK (kindAt L j) : Nat) : Int) < m)) (tl L j); have h2 := hlen j (by omega); omega)
  have HAB : Hid (∀ (s : Past w2) (x m : Int), 0 ≤ x → x < (i : Int) → Calls Tryz.prog 89 #[.int .i64 x, .int .i64 m, ptr bx] s.val fun r w' => r = .returned (.string (bs (PL x m))) ∧ Below s.val.heap.size s.val w') := zz (fun s x m h0 h1 => by
   obtain ⟨j, rfl⟩ : ∃ j : Nat, x = (j : Int) := ⟨x.toNat, by omega⟩; rw [hPL]
   exact part_any L j W (ih j (by omega)) (by omega) m bx _ s.val ((s.h.cell (World.block_lt_of_cell? w2 _ HX2.o)).trans HX2.o) (HR2.o.below s.h) (hW _ _ HW2.o s.h) (by have := hlen j (by omega); omega))
  clear hPL; have p4 : ∀ s : Past w2, s.val.cell? ⟨Y, 4, none⟩ = some (.int .i64 (ja : Int)) := Past.blk HY2.o (j := 4) rfl; have p5 : ∀ s : Past w2, s.val.cell? ⟨Y, 5, none⟩ = some (.int .i64 (jb : Int)) := Past.blk HY2.o (j := 5) rfl; have HUA := zz (HPN.o ja 1 HJA.o); have HUB := zz (HPN.o jb 2 HJB.o); obtain ⟨ua, hua⟩ : ∃ ua, ua = PL (ja : Int) 1 := ⟨_, rfl⟩; obtain ⟨ub, hub⟩ : ∃ ub, ub = PL (jb : Int) 2 := ⟨_, rfl⟩
  have hadd1 : ∀ w, (Op.stringOp .add (bs (PL ja 1)) ⟨#[32, 124, 32]⟩).run Tryz.prog w = .ok (.string (bs (ua ++ [32, 124, 32]))) w := fun w => by rw [← hua] at HUA ⊢; exact add_bs ua [32, 124, 32] (by have := HUA.o; simp; omega) w
  have hadd2 : ∀ w, (Op.stringOp .add (bs (ua ++ [32, 124, 32])) (bs (PL jb 2))).run Tryz.prog w = .ok (.string (bs (ua ++ [32, 124, 32] ++ ub))) w := fun w => by rw [← hua] at HUA; rw [← hub] at HUB ⊢; exact add_bs (ua ++ [32, 124, 32]) ub (by have := HUA.o; have := HUB.o; simp; omega) w
  rw [← hua, ← hub] at HTT; clear hua hub hpa hpb HUA HUB; go_upto_region 19 with fail; refine wp_region_past (by kernel_rfl) (by kernel_rfl) ?_
  repeat (go_big_quiet_step ((go_at_call 89; exact past_call (HAB.o _ _ _ (by omega) (by have := HJA.o; have := HJB.o; omega)))))
  refine wpQuiet_nil ?_; intro _ hw'; obtain ⟨s9, hw''⟩ := hw'; subst hw''; go_wp2; go_ret; exact ⟨by rw [HTT.o]; simp, below_and HB2.o s9.h⟩
 have b9 : (k == 9) = false := by simpa using k9
 have HTT : Hid (bs t = bs nm) := zz (by rw [HT.o, HEQ.o, if_neg k7, if_neg k8, if_neg k9]; unfold ltx; rw [if_neg k1, if_neg k2, if_neg k3, if_neg k4, if_neg k5]); clear k1 k2 k3 k4 k5 k7 k8 k9; go_wp2; go_ret; exact ⟨by rw [HTT.o]; rfl, HB2.o⟩
end Go.Proofs.YtdemkfhkibmbnaaGreatDoor.Ru
namespace Go.Proofs.YtdemkfhkibmbnaaGreatDoor.Ru
def cntL (n : Nat) (Q : List Int) : List Int := (List.range n).map (fun j : Nat => (Q.count (j : Int) : Int))
theorem cntL_len (n : Nat) (Q : List Int) : (cntL n Q).length = n := by unfold cntL; simp
theorem cntL_at {n : Nat} {Q : List Int} {j : Nat} (h : j < n) : (cntL n Q)[j]? = some (Q.count (j : Int) : Int) := by
 unfold cntL
 rw [List.getElem?_map, List.getElem?_range h]
 rfl
theorem cntL_snoc {n : Nat} {Q : List Int} {k : Nat} (h : k < n) : cntL n (Q ++ [(k : Int)]) = (cntL n Q).set k ((Q.count (k : Int) : Int) + 1) := by
 refine List.ext_getElem? fun j => ?_
 by_cases hj : j < n
 ·rw [cntL_at hj, List.getElem?_set, List.count_append]
  by_cases e : k = j
  ·subst e
   rw [if_pos rfl, if_pos (by rw [cntL_len]; exact h)]
   simp
  ·rw [if_neg e, cntL_at hj]
   have : ([(k : Int)] : List Int).count (j : Int) = 0 := by
    rw [List.count_eq_zero]
    simp
    omega
   rw [this]
   rfl
 ·rw [List.getElem?_eq_none (by rw [cntL_len]; omega), List.getElem?_eq_none (by rw [List.length_set, cntL_len]; omega)]
theorem cntL_nil (n : Nat) : cntL n [] = List.replicate n 0 := by
 unfold cntL
 refine List.ext_getElem? fun j => ?_
 by_cases hj : j < n
 ·rw [List.getElem?_map, List.getElem?_range hj, List.getElem?_replicate, if_pos hj]; simp
 ·rw [List.getElem?_eq_none (by simp; omega), List.getElem?_eq_none (by simp; omega)]
def qs (L : List Nd) (i : Nat) : List Int := (L.take i).flatMap parts
theorem qs_succ {L : List Nd} {i : Nat} (h : i < L.length) : qs L (i + 1) = qs L i ++ parts L[i] := by
 unfold qs
 rw [List.take_succ_eq_append_getElem h, List.flatMap_append]
 simp
theorem qs_all (L : List Nd) : qs L L.length = L.flatMap parts := by unfold qs; rw [List.take_length]
theorem parts_le (n : Nd) : (parts n).length ≤ 2 := by
 unfold parts
 split
 ·simp
 ·split <;> simp
theorem qs_len (L : List Nd) : ∀ i, i ≤ L.length → (qs L i).length ≤ 2 * i
 | 0, _ => by unfold qs; simp
 | i + 1, h => by
  rw [qs_succ (by omega), List.length_append]; have := qs_len L i (by omega); have := parts_le L[i]
  omega
theorem shaped_len {L : List Nd} (h : ¬ (1 ≤ L.length ∧ L.length ≤ 64)) : shapedB L = false := by
 unfold shapedB
 rw [decide_eq_false h]
 rfl
theorem shaped_node {L : List Nd} {i : Nat} (hi : i < L.length) (h : fineB i L[i] = false) : shapedB L = false := by
 unfold shapedB
 have : (List.range L.length).all (fun i => fineB i ((L[i]?).getD ⟨0, [], [], 0, 0, 0⟩)) = false := by
  rw [List.all_eq_false]; refine ⟨i, List.mem_range.2 hi, ?_⟩; rw [List.getElem?_eq_getElem hi]
  simp [h]
 rw [this]
 simp
theorem shaped_used {L : List Nd} {j : Nat} (hj : j < L.length - 1) (h : (L.flatMap parts).count (j : Int) ≠ 1) : shapedB L = false := by
 unfold shapedB
 have : (List.range (L.length - 1)).all (fun j => decide (refs L j = 1)) = false := by
  rw [List.all_eq_false]; refine ⟨j, List.mem_range.2 hj, ?_⟩
  unfold refs
  simp only [decide_eq_true_eq]; exact h
 rw [this]
 simp
theorem shaped_last {L : List Nd} (hl : 1 ≤ L.length ∧ L.length ≤ 64) (hf : ∀ i (h : i < L.length), fineB i L[i] = true) (hu : ∀ j, j < L.length - 1 → (L.flatMap parts).count (j : Int) = 1) :
  shapedB L = decide (((L.flatMap parts).count ((L.length - 1 : Nat) : Int) : Int) = 0) := by
 unfold shapedB
 have h1 : (List.range L.length).all (fun i => fineB i ((L[i]?).getD ⟨0, [], [], 0, 0, 0⟩)) = true := by
  rw [List.all_eq_true]; intro i hi; rw [List.mem_range] at hi; rw [List.getElem?_eq_getElem hi]; exact hf i hi
 have h2 : (List.range (L.length - 1)).all (fun j => decide (refs L j = 1)) = true := by
  rw [List.all_eq_true]; intro j hj; rw [List.mem_range] at hj
  unfold refs
  rw [decide_eq_true_eq]; exact hu j hj
 rw [decide_eq_true hl, h1, h2]
 unfold refs
 simp only [Bool.true_and]
 congr 1
 simp
theorem shaped_fine {L : List Nd} (h : shapedB L = true) : Fine L ∧ (∀ j, refs L j ≤ 1) ∧ 1 ≤ L.length ∧ L.length ≤ 64 := by
 unfold shapedB at h
 simp only [Bool.and_eq_true, decide_eq_true_eq, List.all_eq_true, List.mem_range] at h; obtain ⟨⟨⟨h1, h2⟩, h3⟩, h4⟩ := h
 have hF : Fine L := fun i n hi p hp => by
  have hlt : i < L.length := by
   rcases Nat.lt_or_ge i L.length with h' | h'
   ·exact h'
   ·rw [List.getElem?_eq_none h'] at hi; cases hi
  have := h2 i hlt; rw [hi] at this
  unfold fineB at this
  simp only [Option.getD_some, Bool.and_eq_true, List.all_eq_true, decide_eq_true_eq] at this; exact this.2 p hp
 refine ⟨hF, fun j => ?_, h1⟩
 by_cases e1 : j < L.length - 1
 ·rw [h3 j e1]; omega
 by_cases e2 : j = L.length - 1
 ·rw [e2, h4]; omega
 have : refs L j = 0 := by
  unfold refs
  rw [List.count_eq_zero]; intro hm; obtain ⟨n, hn, hp⟩ := List.mem_flatMap.1 hm; obtain ⟨k, hk, rfl⟩ := List.mem_iff_getElem.1 hn; have := hF k _ (List.getElem?_eq_getElem hk) _ hp
  omega
 omega
theorem fine7 {i : Nat} {n : Nd} (h : n.k = 7) : fineB i n = (decide (n.b = -1) && decide (0 ≤ n.a ∧ n.a < i)) := by
 unfold fineB parts
 rw [if_pos h, if_pos h]
 simp
theorem fine89 {i : Nat} {n : Nd} (h : n.k = 8 ∨ n.k = 9) : fineB i n = (decide (0 ≤ n.a ∧ n.a < i) && decide (0 ≤ n.b ∧ n.b < i)) := by
 have h7 : n.k ≠ 7 := by omega
 unfold fineB parts
 rw [if_neg h7, if_pos h, if_neg h7, if_pos h]
 simp
theorem fine0 {i : Nat} {n : Nd} (h7 : n.k ≠ 7) (h : ¬ (n.k = 8 ∨ n.k = 9)) : fineB i n = decide (n.a = -1 ∧ n.b = -1) := by
 unfold fineB parts
 rw [if_neg h7, if_neg h, if_neg h7, if_neg h]
 simp
theorem parts7 {n : Nd} (h : n.k = 7) : parts n = [n.a] := by unfold parts; rw [if_pos h]
theorem parts89 {n : Nd} (h : n.k = 8 ∨ n.k = 9) : parts n = [n.a, n.b] := by
 unfold parts
 rw [if_neg (by omega), if_pos h]
theorem parts0 {n : Nd} (h7 : n.k ≠ 7) (h : ¬ (n.k = 8 ∨ n.k = 9)) : parts n = [] := by
 unfold parts
 rw [if_neg h7, if_neg h]
end Go.Proofs.YtdemkfhkibmbnaaGreatDoor.Ru
namespace Go.Proofs.YtdemkfhkibmbnaaGreatDoor.Ru
open Go.RowKit Go.Proofs.YtdemkfhkibmbnaaGreatDoor
def Fit1 (n : Nd) : Prop := n.nm.length ≤ 1000000000000000 ∧ n.vl.length ≤ 1000000000000000 ∧ -9223372036854775808 ≤ n.x ∧ n.x ≤ 9223372036854775807
theorem ltx_len (n : Nd) (h0 : -9223372036854775808 ≤ n.x) (h1 : n.x ≤ 9223372036854775807) : (ltx n.k n.nm n.vl n.x).length ≤ n.nm.length + n.vl.length + 26 := by
 have hi := Lib.itoa_length_le n.x h0 h1
 unfold ltx
 repeat' split
 all_goals ((try simp only [List.length_append, List.length_cons, anyT, List.length_nil]); omega)
theorem cost_le (n : Nd) (h0 : -9223372036854775808 ≤ n.x) (h1 : n.x ≤ 9223372036854775807) : cost n ≤ n.nm.length + n.vl.length + 34 := by
 have := ltx_len n h0 h1
 unfold cost
 omega
theorem sum_cost (M : Nat) : ∀ L : List Nd, (∀ n ∈ L, cost n ≤ M) → (L.map cost).sum ≤ L.length * M
 | [], _ => by simp
 | n :: L, h => by
  have h1 := h n (by simp); have h2 := sum_cost M L (fun x hx => h x (by simp [hx])); rw [List.map_cons, List.sum_cons, List.length_cons, Nat.add_mul]
  omega
theorem told_long {L : List Nd} (hf : Fine L) (h1 : ∀ j, refs L j ≤ 1) (hl : L.length ≤ 64) (hc : ∀ n ∈ L, Fit1 n) {i : Nat} (hi : i < L.length) : (tl L i).length ≤ 1000000000000000000 := by
 have h := told_le hf h1 hi
 have h2 := sum_cost 2000000000000034 L (fun n hn => by
  obtain ⟨a, b, c, d⟩ := hc n hn; have := cost_le n c d
  omega)
 have h3 : L.length * 2000000000000034 ≤ 64 * 2000000000000034 := Nat.mul_le_mul_right _ hl
 omega
theorem told_any {L : List Nd} (hf : Fine L) (h1 : ∀ j, refs L j ≤ 1) (hl : L.length ≤ 64) (hc : ∀ n ∈ L, Fit1 n) : ∀ (m i : Nat), i < m → i < L.length → ToldC L i Tab
 | 0, _, h, _ => absurd h (by omega)
 | m + 1, i, h, hi => told_step L hf i hi Tab (fun _ _ h hb => h.below hb) (fun _ h => h) (fun j hj => told_any hf h1 hl hc m j (by omega) (by omega)) (fun j hj => told_long hf h1 hl hc hj) hc
theorem flat_nodes : ∀ (t : Tr) (b : Nat), t.ok → ∀ n ∈ t.flat b, n.nm.length ≤ 24 ∧ n.vl.length ≤ 32 ∧ 0 ≤ n.x ∧ n.x ≤ 999999999999
 | .lf k nm vl x, b, ho, n, hn => by
  simp only [Tr.flat, List.mem_singleton] at hn; subst hn
  unfold Tr.ok leafOk nameOk wordOk at ho
  rcases ho with ⟨rfl, rfl, rfl, rfl⟩ | ⟨-, h1, h2, rfl⟩ | ⟨-, h1, rfl, h2, h3⟩ | ⟨rfl, h1, rfl, rfl⟩
  ·simp
  ·exact ⟨h1.1, h2.2.1, by simp, by simp⟩
  ·exact ⟨h1.1, by simp, h2, h3⟩
  ·exact ⟨h1.1, by simp, by simp, by simp⟩
 | .no t, b, ho, n, hn => by
  simp only [Tr.flat, List.mem_append, List.mem_singleton] at hn; rcases hn with hn | rfl
  ·exact flat_nodes t b ho n hn
  ·simp
 | .an l r, b, ho, n, hn => by
  simp only [Tr.flat, List.mem_append, List.mem_singleton] at hn; rcases hn with (hn | hn) | rfl
  ·exact flat_nodes l b ho.1 n hn
  ·exact flat_nodes r _ ho.2 n hn
  ·simp
 | .o l r, b, ho, n, hn => by
  simp only [Tr.flat, List.mem_append, List.mem_singleton] at hn; rcases hn with (hn | hn) | rfl
  ·exact flat_nodes l b ho.1 n hn
  ·exact flat_nodes r _ ho.2 n hn
  ·simp
theorem flat_fine (t : Tr) (ho : t.ok) (hs : t.size ≤ 64) : Fine (t.flat 0) ∧ (∀ j, refs (t.flat 0) j ≤ 1) ∧ 1 ≤ (t.flat 0).length ∧ (t.flat 0).length ≤ 64 := shaped_fine (shaped_flat t ho hs)
theorem flat_fit (t : Tr) (ho : t.ok) : ∀ n ∈ t.flat 0, Fit1 n := fun n hn => by
 obtain ⟨h1, h2, h3, h4⟩ := flat_nodes t 0 ho n hn; exact ⟨by omega, by omega, by omega, by omega⟩
theorem flat_told (t : Tr) (ho : t.ok) (hs : t.size ≤ 64) {i : Nat} (hi : i < (t.flat 0).length) : ToldC (t.flat 0) i Tab := by
 obtain ⟨h1, h2, h3, h4⟩ := flat_fine t ho hs; exact told_any h1 h2 h4 (flat_fit t ho) _ i (Nat.lt_succ_self _) hi
