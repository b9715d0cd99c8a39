/- NtRDo. -/
import Derived.Test.YtndjgbknhfficaaNtRPut
import Derived.Test.YtndjgbknhfficaaNtScP
namespace Go.Proofs.Ytndjgbknhfficaa.Nt
open Go.RowKit Go.Proofs.Ytndjgbknhfficaa Go.Proofs.Ytndjgbknhfficaa.So

/-- what a call leaves of the document's net -/
structure RTo (w w' : World) (g : Nat) (v v' : Value) (last : Int) (L : List En) : Prop where
  n : RNet w' g v' last L
  fr : Frp (fun k => k = g ∨ v.ownBlock = some k) w w'
  new : ∀ q, v'.ownBlock = some q → v.ownBlock = some q ∨ w.heap.size ≤ q
section
variable {w w1 w' w2 : World} {g : Nat} {v v' : Value} {last : Int} {L L' : List En}
theorem RTo.same (h : RNet w g v last L) (hb : Below w.heap.size w w') : RTo w w' g v v last L := ⟨h.kept hb, Frp.of_below hb _, fun _ hq => .inl hq⟩
theorem RTo.next (h : RTo w w' g v v' last L) (hb : Below w'.heap.size w' w2) : RTo w w2 g v v' last L := ⟨h.n.kept hb, h.fr.next hb, h.new⟩
theorem RTo.before (hb : Below w.heap.size w w1) (h : RTo w1 w' g v v' last L) : RTo w w' g v v' last L := ⟨h.n, (Frp.of_below hb _).then h.fr, fun q hq => (h.new q hq).imp id (fun hh => Nat.le_trans hb.size hh)⟩
theorem RNet.apU (h : RNet w g v last L) {base : Nat} {u : Value} {n : Nat} {xs : List Value} (ho : w.ownsRow base 5 1 u n xs) : ∀ k, u.ownBlock = some k → ¬ (k = g ∨ v.ownBlock = some k) := fun k hk hq => by
  rcases hq with rfl | hq
  · exact own_ty ho h.blk (by decide) hk
  · exact own_own ho h.row (by decide) hk hq
theorem RTo.put {e : En} (h : RNet w g v last L) (hbl : Blk w' g [v', .int .u64 (last + 1)] 50) (hr : w'.ownsRow 0 32 5 v' (L.length + 1) (rwC enC L ++ enC e)) (hf : Frp (fun k => k = g ∨ v.ownBlock = some k) w w') (hn : ∀ q, v'.ownBlock = some q → v.ownBlock = some q ∨ w.heap.size ≤ q) (he : w.ownsRow 0 5 1 e.v e.l.bd.length (e.l.bd.map B)) : RTo w w' g v v' (last + 1) (L ++ [e]) := by
  refine ⟨⟨hbl, ?_, fun x hx => ?_⟩, hf, hn⟩
  · rw [List.length_append]
    have : rwC enC (L ++ [e]) = rwC enC L ++ enC e := by rw [rwC_append]; simp [rwC]
    rw [this]
    exact hr
  · rcases List.mem_append.1 hx with hx | hx
    · exact own_frp (h.own x hx) hf (h.apU (h.own x hx))
    · simp at hx; subst hx; exact own_frp he hf (h.apU he)
theorem RTo.store (h : RNet w g v last L) (hb : Below w.heap.size w w1) (ho : w1.ownsRow w.heap.size 32 5 v' L'.length (rwC enC L')) (hs : ∀ e ∈ L', e ∈ L) : RTo w (w1.setCell ⟨g, 0, none⟩ v') g v v' last L' := by
  have h1 := h.kept hb
  refine ⟨⟨h1.blk.set 0 _, So.row_low (own_other ho (own_ty ho h1.blk (by decide)) _) (Nat.zero_le _), fun e he => own_other (h1.own e (hs e he)) (own_ty (h1.own e (hs e he)) h1.blk (by decide)) _⟩, (Frp.of_below hb _).set (p := ⟨g, 0, none⟩) (.inl rfl) _, fun q hq => .inr (own_lo ho hq)⟩
theorem RNet.one (h : RNet w g v last L) : ∀ u ∈ rwC enC L, u.oneCell' = true := fun u hu => by
  unfold rwC at hu
  obtain ⟨e, he, hue⟩ := List.mem_flatMap.1 hu
  obtain ⟨p, c, hv, -, -⟩ := own_slice (h.own e he)
  simp only [enC, ltC, hv, List.mem_cons, List.not_mem_nil, or_false] at hue
  rcases hue with rfl | rfl | rfl | rfl | rfl <;> rfl
theorem enC_len (e : En) : (enC e).length = 5 := rfl
theorem lt_first {p : Option Addr} {c i m : Nat} (h : RNet w g (.slice p m c) last L) (hm : m = L.length) (hb : Below w.heap.size w w') (hi : i ≤ m) : Src Try.prog 5 40 (.slice p i c) i (rwC enC (L.take i)) w' := by
  subst hm
  have h1 := row_first (Row.below (row_of_owns h.row h.one) hb) hi
  rw [rwC_take enC_len hi] at h1
  exact h1.src Try.underlying40
theorem lt_rest {p : Option Addr} {c i m : Nat} (h : RNet w g (.slice p m c) last L) (hm : m = L.length) (hb : Below w.heap.size w w') (hi : i ≤ m) : Src Try.prog 5 40 (.slice (if c = i then p else Option.map (fun x => x.add (i * 5)) p) (m - i) (c - i)) (m - i) (rwC enC (L.drop i)) w' := by
  subst hm
  have h1 := row_rest (Row.below (row_of_owns h.row h.one) hb) hi
  rw [rwC_drop enC_len hi] at h1
  exact h1.src Try.underlying40
end
set_option maxRecDepth 100000 in
set_option maxHeartbeats 2000000 in
theorem rsend_arg {w : World} {g : Nat} (sd rc : Int) (v : Value) (hn : (nodeB sd && nodeB rc) = false) :
    Calls Try.prog 20 #[ptr g, .int .i64 sd, .int .i64 rc, v] w fun e w' => e = .returned (.tuple #[.int .u64 0, .int .i64 2]) ∧ w = w' := by
  have HN := Lib.hid hn
  clear hn
  by_cases h0 : sd < 0
  · have t0 : decide (sd < 0) = true := decide_eq_true h0
    go_enter Try.func20, Try.ntmps20
    go_wp2
    go_ret2
    exact ⟨rfl, rfl⟩
  have t0 : decide (sd < 0) = false := decide_eq_false h0
  by_cases h1 : 63 < sd
  · have t1 : decide (63 < sd) = true := decide_eq_true h1
    go_enter Try.func20, Try.ntmps20
    go_wp2
    go_ret2
    exact ⟨rfl, rfl⟩
  have t1 : decide (63 < sd) = false := decide_eq_false h1
  by_cases h2 : rc < 0
  · have t2 : decide (rc < 0) = true := decide_eq_true h2
    go_enter Try.func20, Try.ntmps20
    go_wp2
    go_ret2
    exact ⟨rfl, rfl⟩
  have t2 : decide (rc < 0) = false := decide_eq_false h2
  by_cases h3 : 63 < rc
  · have t3 : decide (63 < rc) = true := decide_eq_true h3
    go_enter Try.func20, Try.ntmps20
    go_wp2
    go_ret2
    exact ⟨rfl, rfl⟩
  have h4 := HN.out
  unfold nodeB at h4
  simp at h4
  omega
set_option maxRecDepth 100000 in
set_option maxHeartbeats 2000000 in
theorem rsend_long {w : World} {g : Nat} (sd rc : Int) (v : Value) (bd : List UInt8) (hv : Go.Proofs.Ytndjgbknhfficaa.Rd w v bd) (hn : (nodeB sd && nodeB rc) = true) (hl : 16384 < bd.length) :
    Calls Try.prog 20 #[ptr g, .int .i64 sd, .int .i64 rc, v] w fun e w' => e = .returned (.tuple #[.int .u64 0, .int .i64 3]) ∧ w = w' := by
  obtain ⟨hs, hr⟩ : nodeB sd = true ∧ nodeB rc = true := by simpa using hn
  unfold nodeB at hs hr
  simp only [Bool.and_eq_true, decide_eq_true_eq] at hs hr
  have t0 : decide (sd < 0) = false := decide_eq_false (by omega)
  have t1 : decide (63 < sd) = false := decide_eq_false (by omega)
  have t2 : decide (rc < 0) = false := decide_eq_false (by omega)
  have t3 : decide (63 < rc) = false := decide_eq_false (by omega)
  clear hn hs hr
  obtain ⟨p, c, rfl, -⟩ := hv.parts
  clear hv
  obtain ⟨n, hn⟩ : ∃ n, n = bd.length := ⟨_, rfl⟩
  rw [← hn] at hl ⊢
  clear hn
  have t4 : (16384 : Int) < (n : Int) := by omega
  go_enter Try.func20, Try.ntmps20
  go_wp2
  go_ret2
  exact ⟨rfl, rfl⟩
set_option maxRecDepth 100000 in
set_option maxHeartbeats 2000000 in
theorem rsend_ok {w : World} {g : Nat} {vL : Value} {last : Int} {L : List En} (sd rc : Int) (v : Value) (bd : List UInt8) (h : RNet w g vL last L) (hla : 0 ≤ last ∧ last ≤ 4000) (hL : L.length ≤ 4000) (hv : Go.Proofs.Ytndjgbknhfficaa.Rd w v bd) (hn : (nodeB sd && nodeB rc) = true) (hl : bd.length ≤ 16384) :
    Calls Try.prog 20 #[ptr g, .int .i64 sd, .int .i64 rc, v] w fun e w' => e = .returned (.tuple #[.int .u64 (last + 1), .int .i64 0]) ∧ ∃ v' u, RTo w w' g vL v' (last + 1) (L ++ [⟨⟨last + 1, last + 1, sd, rc, bd⟩, u⟩]) := by
  obtain ⟨hs, hr⟩ : nodeB sd = true ∧ nodeB rc = true := by simpa using hn
  unfold nodeB at hs hr
  simp only [Bool.and_eq_true, decide_eq_true_eq] at hs hr
  have t0 : decide (sd < 0) = false := decide_eq_false (by omega)
  have t1 : decide (63 < sd) = false := decide_eq_false (by omega)
  have t2 : decide (rc < 0) = false := decide_eq_false (by omega)
  have t3 : decide (63 < rc) = false := decide_eq_false (by omega)
  clear hn hs hr
  obtain ⟨k0, hk0, hx0, hx1, hx2⟩ := info_parts Try.uinfo
  have HV := Lib.hid hv
  have HLA := Lib.hid hla
  obtain ⟨p, c, rfl, -⟩ := hv.parts
  obtain ⟨pl, cl, rfl, -, -⟩ := own_slice h.row
  have H := Lib.hid h
  obtain ⟨m, hm⟩ : ∃ m, m = L.length := ⟨_, rfl⟩
  have HM := Lib.hid hm
  obtain ⟨n, hn⟩ : ∃ n, n = bd.length := ⟨_, rfl⟩
  have HN := Lib.hid hn
  rw [← hm] at hL H ⊢
  rw [← hn] at hl HV ⊢
  clear h hv hla hm hn
  have t4 : ¬ (16384 : Int) < (n : Int) := by omega
  have t5 : ¬ (4096 : Int) ≤ (m : Int) := by omega
  have c0 := H.out.blk.cell (j := 0) rfl
  have HS : Hid (Src Try.prog 1 29 (.slice p n c) n (bd.map B) (w.alloc (.cells #[] 5))) := Lib.hid (by have h9 := (HV.out.below (below_alloc w (.cells #[] 5))).src Try.underlying29; rw [← HN.out] at h9; exact h9)
  go_enter Try.func20, Try.ntmps20
  go_upto_region 7 with fail
  go_wp2_with (first | (at_builtin; refine wpList_app _ rfl _ _ 29 29 rfl w.heap.size 5 k0 (.int .u8 0) 1 1 Try.underlying29 hk0 hx0 hx1 hx2 rfl (.slice (some ⟨w.heap.size, 0, none⟩) 0 0) 0 [] rfl (own_e w w.heap.size (Nat.le_refl _)) _ n _ rfl HS.out (by unfold maxLen; omega) (by omega) (by simp) ?_; intro v7 w7 ho7 hg7 _; rw [Nat.zero_add, List.nil_append] at ho7; obtain ⟨p7, c7, rfl, -, -⟩ := own_slice ho7; have HB7 : Hid (Below w.heap.size w w7) := Lib.hid ((Frp.grown (P := fun _ => False) (frp_alloc (Frp.refl _ w) _) hg7 (by intro k hk; right; cases hk; exact Nat.le_refl _)).below (fun k hk => hk.elim) (Nat.le_refl _)); have HO7 : Hid (w7.ownsRow 0 5 1 (.slice p7 n c7) n (bd.map B)) := Lib.hid (So.row_low ho7 (Nat.zero_le _)); have H7 := Lib.hid (H.out.kept HB7.out); clear ho7 hg7) | (go_at_call 39; refine (rput_any 0 0 (last + 1) sd rc p7 n c7 H7.out HLA.out (by rw [← HM.out]; exact hL) rfl).mono ?_; rintro e w8 ⟨rfl, hpost⟩; have HP := Lib.hid hpost; clear hpost))
  go_ret2
  obtain ⟨v8, h1, h2, h3, h4⟩ := HP.out
  refine ⟨rfl, v8, .slice p7 n c7, RTo.before HB7.out (RTo.put (e := ⟨⟨last + 1, last + 1, sd, rc, bd⟩, .slice p7 n c7⟩) H7.out h1 h2 h3 h4 ?_)⟩
  have h9 := HO7.out
  rw [HN.out] at h9
  rw [HN.out]
  exact h9
set_option maxRecDepth 100000 in
set_option maxHeartbeats 2000000 in
theorem rdouble_no {w : World} {g : Nat} {v : Value} {last : Int} {L : List En} (n : Int) (h : RNet w g v last L) (hno : ∀ e ∈ L, e.l.no ≠ n) :
    Calls Try.prog 25 #[ptr g, .int .u64 n] w fun e w' => e = .returned (.tuple #[.int .u64 0, .int .i64 6]) ∧ Below w.heap.size w w' := by
  have H := Lib.hid (rplace_no n h hno)
  clear h hno
  go_enter Try.func25, Try.ntmps25
  go_wp2_with (go_at_call 40; refine H.out.mono ?_; rintro e w2 ⟨rfl, hb⟩; have HB := Lib.hid hb; clear hb H)
  go_ret2
  exact ⟨rfl, HB.out⟩
set_option maxRecDepth 100000 in
set_option maxHeartbeats 2000000 in
theorem rdouble_yes {w : World} {g : Nat} {v : Value} {last : Int} {L : List En} (n : Int) (h : RNet w g v last L) (hla : 0 ≤ last ∧ last ≤ 4000) (hL : L.length ≤ 4000) (i : Nat) (hi : i < L.length) (x : En) (hx : L[i]'hi = x) (hq : x.l.no = n) (hbf : ∀ j (hj : j < i), (L[j]'(by omega)).l.no ≠ n) (hfi : x.l.fi ≠ 0) :
    Calls Try.prog 25 #[ptr g, .int .u64 n] w fun e w' => e = .returned (.tuple #[.int .u64 (last + 1), .int .i64 0]) ∧ ∃ v', RTo w w' g v v' (last + 1) (L ++ [⟨⟨last + 1, x.l.fi, x.l.sd, x.l.rc, x.l.bd⟩, x.v⟩]) := by
  obtain ⟨p, c, rfl, hc, hmx⟩ := own_slice h.row
  obtain ⟨gr, rfl⟩ := own_some h.row (by omega)
  obtain ⟨px, cx, hxv, -, -⟩ := own_slice (h.own x (by rw [← hx]; exact List.getElem_mem _))
  have HC5 : Hid (∀ j u, j < 5 → (enC x)[j]? = some u → ∀ w', Below w.heap.size w w' → w'.cell? ⟨gr, i * 5 + j, none⟩ = some u) := Lib.hid (fun j u hj hu w' hb => own_cell (own_keep h.row hb) (j := i * 5 + j) (by rw [rwC_at enC_len hi hj, hx]; exact hu))
  obtain ⟨lx, hlx⟩ : ∃ lx, lx = x.l.bd.length := ⟨_, rfl⟩
  simp only [enC, ltC, hxv] at HC5
  rw [← hlx] at HC5
  have HPL := Lib.hid (rplace_yes n h i hi (by rw [hx]; exact hq) hbf)
  have HLA := Lib.hid hla
  have HO := Lib.hid (h.own x (by rw [← hx]; exact List.getElem_mem _))
  have HXV := Lib.hid hxv
  have HLX := Lib.hid hlx
  have HFI := Lib.hid hfi
  have H := Lib.hid h
  obtain ⟨m, hm⟩ : ∃ m, m = L.length := ⟨_, rfl⟩
  have HM := Lib.hid hm
  rw [← hm] at hL H hi hc ⊢
  clear h hla hm hbf hq hfi hxv hlx hx
  have j0 : ¬ (i : Int) < 0 := by omega
  have t5 : ¬ (4096 : Int) ≤ (m : Int) := by omega
  go_enter Try.func25, Try.ntmps25
  go_upto_region 2 with (go_at_call 40; refine HPL.out.mono ?_; rintro e w2 ⟨rfl, hb⟩; have HB2 := Lib.hid hb; have H2 := Lib.hid (H.out.kept hb); clear hb HPL)
  have c0 := H2.out.blk.cell (j := 0) rfl
  have x0 := HC5.out 0 _ (by omega) rfl _ HB2.out
  simp only [Nat.add_zero] at x0
  have x1 := HC5.out 1 _ (by omega) rfl _ HB2.out
  have x2 := HC5.out 2 _ (by omega) rfl _ HB2.out
  have x3 := HC5.out 3 _ (by omega) rfl _ HB2.out
  have x4 := HC5.out 4 _ (by omega) rfl _ HB2.out
  go_wp2_with (go_at_call 39; refine (rput_any x.l.no x.l.fi x.l.fi x.l.sd x.l.rc px lx cx H2.out HLA.out (by rw [← HM.out]; exact hL) (by rw [if_neg HFI.out])).mono ?_; rintro e w8 ⟨rfl, hpost⟩; have HP := Lib.hid hpost; clear hpost)
  go_ret2
  obtain ⟨v8, h1, h2, h3, h4⟩ := HP.out
  refine ⟨rfl, v8, RTo.before HB2.out (RTo.put (e := ⟨⟨last + 1, x.l.fi, x.l.sd, x.l.rc, x.l.bd⟩, x.v⟩) H2.out h1 ?_ h3 h4 (own_keep HO.out HB2.out))⟩
  rw [show enC ⟨⟨last + 1, x.l.fi, x.l.sd, x.l.rc, x.l.bd⟩, x.v⟩ = [.int .u64 (last + 1), .int .u64 x.l.fi, .int .i64 x.l.sd, .int .i64 x.l.rc, .slice px lx cx] from by simp only [enC, ltC, HXV.out, HLX.out]]
  exact h2
end Go.Proofs.Ytndjgbknhfficaa.Nt
