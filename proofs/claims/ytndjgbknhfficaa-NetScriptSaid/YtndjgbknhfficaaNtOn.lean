/- NtOn. -/
import Derived.Test.YtndjgbknhfficaaNtFlight
import Derived.Test.YtndjgbknhfficaaMNt
namespace Go.Proofs.Ytndjgbknhfficaa.Nt
open Go.RowKit Go.Proofs.Ytndjgbknhfficaa Go.Proofs.Ytndjgbknhfficaa.So

set_option maxRecDepth 100000 in
set_option maxHeartbeats 2000000 in
theorem samenum_any {b1 b2 : Nat} (v1 v2 : Value) (l1 l2 : List Int) (w : World) (h1 : w.ownsRow b1 25 1 v1 l1.length (l1.map encU)) (h2 : w.ownsRow b2 25 1 v2 l2.length (l2.map encU)) :
    Calls Try.prog 12 #[v1, v2] w fun e w' => e = .returned (.bool (l1 == l2)) ∧ Below w.heap.size w w' := by
  obtain ⟨p1, c1, rfl, hc1, hm1⟩ := own_slice h1
  obtain ⟨p2, c2, rfl, hc2, hm2⟩ := own_slice h2
  unfold maxLen at hm1 hm2
  obtain ⟨n1, hn1⟩ : ∃ n, n = l1.length := ⟨_, rfl⟩
  obtain ⟨n2, hn2⟩ : ∃ n, n = l2.length := ⟨_, rfl⟩
  rw [← hn1] at h1 hc1 ⊢
  rw [← hn2] at h2 hc2 ⊢
  have H1 := Lib.hid h1
  have H2 := Lib.hid h2
  have N1 := Lib.hid hn1
  have N2 := Lib.hid hn2
  clear h1 h2 hn1 hn2
  by_cases hl : n1 = n2
  case neg =>
    have hf : Hid ((l1 == l2) = false) := Lib.hid (by rw [beq_eq_false_iff_ne]; intro e; exact hl (by rw [N1.out, N2.out, e]))
    have hl' : ((n1 : Int) != (n2 : Int)) = true := by rw [bne_iff_ne]; omega
    clear hl
    go_enter Try.func12, Try.ntmps12
    go_wp2
    go_ret
    exact ⟨ret_bool hf.out.symm, Below.refl _ _⟩
  case pos =>
    subst hl
    have hl' : ((n1 : Int) != (n1 : Int)) = false := by simp
    go_enter Try.func12, Try.ntmps12
    go_wp2
    go_loopw [5] (fun i w' => ∃ k q : Nat, k ≤ n1 ∧ i = .int .i64 k ∧ w' = w.drewN q ∧ Hid (∀ j (h1 : j < l1.length) (h2 : j < l2.length), j < k → l1[j] = l2[j])) (fun i _ => n1 - (So.intOf i).toNat)
    case atStart => exact ⟨0, 0, Nat.zero_le _, by go_num, rfl, Lib.hid fun j _ _ h => by omega⟩
    case round =>
      obtain ⟨k, q, hk, rfl, rfl, he⟩ := hrel
      by_cases hlt : k < n1
      rotate_left
      · have hf : Hid ((l1 == l2) = true) := Lib.hid (by rw [beq_iff_eq]; exact List.ext_getElem (by rw [← N1.out, ← N2.out]) fun i g1 g2 => he.out i g1 g2 (by have := N1.out; omega))
        go_wp2
        go_ret
        exact ⟨ret_bool hf.out.symm, below_drewN _⟩
      obtain ⟨g1, rfl⟩ := own_some H1.out (by omega)
      obtain ⟨g2, rfl⟩ := own_some H2.out (by omega)
      have K1 : Hid (k < l1.length) := Lib.hid (by rw [← N1.out]; exact hlt)
      have K2 : Hid (k < l2.length) := Lib.hid (by rw [← N2.out]; exact hlt)
      obtain ⟨x, hx⟩ : ∃ x, x = l1[k]'K1.out := ⟨_, rfl⟩
      obtain ⟨y, hy⟩ : ∃ y, y = l2[k]'K2.out := ⟨_, rfl⟩
      have e1 : w.cell? ⟨g1, k, none⟩ = some (.int .u64 x) := own_cell H1.out (j := k) (by rw [List.getElem?_map, List.getElem?_eq_getElem K1.out, ← hx]; rfl)
      have e2 : w.cell? ⟨g2, k, none⟩ = some (.int .u64 y) := own_cell H2.out (j := k) (by rw [List.getElem?_map, List.getElem?_eq_getElem K2.out, ← hy]; rfl)
      have HX := Lib.hid hx
      have HY := Lib.hid hy
      clear hx hy
      go_wp2
      go_quiet (fail)
      by_cases hxy : x = y
      · have hd : (x != y) = false := by rw [hxy]; simp
        have HE := Lib.hid hxy
        clear hxy
        go_wp2
        go_roundw
        case rel =>
          refine ⟨k + 1, q + nq, by omega, by go_num, by first | rfl | rw [World.drewN_drewN], Lib.hid fun j g1 g2 hj => ?_⟩
          by_cases hjk : j < k
          · exact he.out j g1 g2 hjk
          · obtain rfl : j = k := by omega
            rw [← HX.out, ← HY.out, HE.out]
        case measure => first | (simp [So.intOf]; done) | (simp [So.intOf]; omega)
      · have hd : (x != y) = true := by rw [bne_iff_ne]; exact hxy
        have hf : Hid ((l1 == l2) = false) := Lib.hid (by rw [beq_eq_false_iff_ne]; intro e; apply hxy; rw [HX.out, HY.out]; subst e; rfl)
        clear hxy
        go_wp2
        go_ret
        exact ⟨ret_bool hf.out.symm, by first | exact below_drewN _ | (rw [World.drewN_drewN]; exact below_drewN _)⟩
/-- the net at b, its map at mb, since w0 -/
structure ON (w0 w : World) (b mb : Nat) (last : Int) (E : List En) : Prop where
  p : PNet w b mb last E
  lo : w0.heap.size ≤ b ∧ w0.heap.size ≤ mb
  bel : Below w0.heap.size w0 w
theorem ON.kept {w0 w w' : World} {b mb : Nat} {last : Int} {E : List En} (h : ON w0 w b mb last E) (hb : Below w.heap.size w w') : ON w0 w' b mb last E := ⟨h.p.kept hb, h.lo, below_and h.bel hb⟩
theorem ON.step {w0 w w' : World} {b mb : Nat} {last last' : Int} {E E' : List En} (h : ON w0 w b mb last E) (hp : PNet w' b mb last' E') (hf : Frp (NP b mb) w w') : ON w0 w' b mb last' E' :=
  ⟨hp, h.lo, h.bel.trans (hf.below (fun k hk => by rcases hk with rfl | rfl; exact h.lo.1; exact h.lo.2) h.bel.size)⟩
theorem ON.of_new {w0 w w' : World} {b mb : Nat} (hb0 : Below w0.heap.size w0 w) (h1 : w.heap.size ≤ b) (h2 : w.heap.size ≤ mb) (hp : PNet w' b mb 0 []) (hb : Below w.heap.size w w') : ON w0 w' b mb 0 [] :=
  ⟨hp, ⟨Nat.le_trans hb0.size h1, Nat.le_trans hb0.size h2⟩, below_and hb0 hb⟩
theorem ni0 : NI 0 [] 0 := ⟨by unfold Rise nos; simp, by simp, by simp, ⟨by omega, by omega⟩, Nat.le_refl _⟩
abbrev e1 (v : Value) : En := ⟨⟨1, 1, 0, 1, [97]⟩, v⟩
abbrev e2 (v : Value) : En := ⟨⟨2, 2, 1, 0, [98]⟩, v⟩
abbrev e3 (v : Value) : En := ⟨⟨3, 1, 0, 1, [97]⟩, v⟩
theorem ni1 (u : Value) : NI 1 [e1 u] 1 := ni0.add (e := e1 u) rfl (by simp)
theorem ni2 (u v : Value) : NI 2 [e1 u, e2 v] 2 := (ni1 u).add (e := e2 v) rfl (by simp)
theorem ni3 (u v x : Value) : NI 3 [e1 u, e2 v, e3 x] 3 := (ni2 u v).add (e := e3 x) rfl (by simp)
theorem lit_bytes (w : World) (l : List UInt8) (hl : l.length ≤ maxLen) (fr : Nat × Nat) : Rd (w.alloc (.cells (l.map B).toArray 5 fr)) (.slice (some ⟨w.heap.size, 0, none⟩) l.length l.length) l := by
  refine ⟨some ⟨w.heap.size, 0, none⟩, l.length, rfl, Nat.le_refl _, hl, by simp, bytes_one _, by simp, .inr ⟨w.heap.size, 0, rfl, fun j u hj => ?_⟩⟩
  rw [cell_of_row _ w.heap.size (0 + j) (l.map B).toArray 5 fr (heap_alloc_new w _)]
  simpa using hj
theorem rdA (w : World) (fr : Nat × Nat) : Rd (w.alloc (.cells #[.int .u8 97] 5 fr)) (.slice (some ⟨w.heap.size, 0, none⟩) 1 1) [97] := lit_bytes w [97] (by decide) fr
theorem rdB (w : World) (fr : Nat × Nat) : Rd (w.alloc (.cells #[.int .u8 98] 5 fr)) (.slice (some ⟨w.heap.size, 0, none⟩) 1 1) [98] := lit_bytes w [98] (by decide) fr
theorem one_sendA {w0 w : World} {b mb : Nat} {fr : Nat × Nat} (h : ON w0 w b mb 0 []) : Calls Try.prog 9 #[ptr b, .int .i64 0, .int .i64 1, .slice (some ⟨w.heap.size, 0, none⟩) 1 1] (w.alloc (.cells #[.int .u8 97] 5 fr)) fun e w' => e = .returned (.tuple #[.int .u64 1, .int .i64 0]) ∧ ∃ u, ON w0 w' b mb 1 [e1 u] :=
  (send_ok 0 1 _ [97] (h.kept (below_alloc _ _)).p ni0 (by omega) (rdA w fr) (by decide) (by decide)).mono fun e w' ⟨he, u, hp, hf⟩ => ⟨he, u, (h.kept (below_alloc _ _)).step hp hf⟩
theorem one_sendB {w0 w : World} {b mb : Nat} {u : Value} {fr : Nat × Nat} (h : ON w0 w b mb 1 [e1 u]) : Calls Try.prog 9 #[ptr b, .int .i64 1, .int .i64 0, .slice (some ⟨w.heap.size, 0, none⟩) 1 1] (w.alloc (.cells #[.int .u8 98] 5 fr)) fun e w' => e = .returned (.tuple #[.int .u64 2, .int .i64 0]) ∧ ∃ v, ON w0 w' b mb 2 [e1 u, e2 v] :=
  (send_ok 1 0 _ [98] (h.kept (below_alloc _ _)).p (ni1 u) (by omega) (rdB w fr) (by decide) (by decide)).mono fun e w' ⟨he, v, hp, hf⟩ => ⟨he, v, (h.kept (below_alloc _ _)).step hp hf⟩
theorem one_double {w0 w : World} {b mb : Nat} {u v : Value} (h : ON w0 w b mb 2 [e1 u, e2 v]) : Calls Try.prog 10 #[ptr b, .int .u64 1] w fun e w' => e = .returned (.tuple #[.int .u64 3, .int .i64 0]) ∧ ∃ x, ON w0 w' b mb 3 [e1 u, e2 v, e3 x] :=
  (double_yes 1 (e1 u) h.p (ni2 u v) (by omega) (by decide) rfl (by simp)).mono fun e w' ⟨he, x, hp, hf⟩ => ⟨he, x, h.step hp hf⟩
end Go.Proofs.Ytndjgbknhfficaa.Nt
