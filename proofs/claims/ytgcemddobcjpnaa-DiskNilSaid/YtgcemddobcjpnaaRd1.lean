/- The document's disk in memory; name, asked, place, step. -/
import Derived.Test.YtgcemddobcjpnaaDkInv
import Derived.Test.YtgcemddobcjpnaaRw
import Derived.Test.YtgcemddobcjpnaaPast
import Derived.Test.YtgcemddobcjpnaaDk1
import Derived.Sort.Walk0
namespace Go.Proofs.Ytgcemddobcjpnaa
open Go.RowKit

structure Rf where
  f : Fl
  v : Value
namespace Rf
def key (r : Rf) : List UInt8 := r.f.key
abbrev c (r : Rf) : List Value := [.string r.f.n, r.v, .int .i64 (r.f.s : Int)]
end Rf
abbrev rdC (vF : Value) (D : Dk) : List Value := [.int .i64 D.room, vF, .bool D.fused, .int .i64 D.fuse, .bool D.off, .int .i64 D.steps]
structure RDk (w : World) (g : Nat) (vF : Value) (D : Dk) (L : List Rf) : Prop where
  blk : Blk w g (rdC vF D) 80
  row : w.ownsRow 0 86 3 vF L.length (rwC Rf.c L)
  eq : L.map Rf.f = D.F
  body : ∀ r ∈ L, Fresh 0 w r.v r.f.b
def fpR (g : Nat) (vF : Value) (L : List Rf) (k : Nat) : Prop := k = g ∨ vF.ownBlock = some k ∨ ∃ r ∈ L, r.v.ownBlock = some k
theorem rfC_len (r : Rf) : (Rf.c r).length = 3 := rfl
theorem own_one {w : World} {base : Nat} {e : TypeId} {size n : Nat} {v : Value} {xs : List Value} (h : w.ownsRow base e size v n xs) : v.oneCell' = true := by
  obtain ⟨p, c, rfl, -, -⟩ := own_slice h
  rfl
section
variable {w w' : World} {g : Nat} {vF : Value} {D : Dk} {L : List Rf}
theorem RDk.kept (h : RDk w g vF D L) (hb : Below w.heap.size w w') : RDk w' g vF D L := ⟨h.blk.kept hb, own_keep h.row hb, h.eq, fun r hr => own_keep (h.body r hr) hb⟩
theorem RDk.cone (h : RDk w g vF D L) : ∀ u ∈ rwC Rf.c L, u.oneCell' = true := by
  intro u hu
  obtain ⟨r, hr, hx⟩ := List.mem_flatMap.1 hu
  simp only [Rf.c, List.mem_cons, List.not_mem_nil, or_false] at hx
  rcases hx with rfl | rfl | rfl
  · rfl
  · exact own_one (h.body r hr)
  · rfl
theorem RDk.len (h : RDk w g vF D L) : L.length = D.F.length := by rw [← h.eq, List.length_map]
theorem RDk.shape (h : RDk w g vF D L) : ∃ p c, vF = .slice p L.length c ∧ L.length ≤ c ∧ c ≤ maxLen ∧ Row w (.slice p L.length c) 3 L.length (rwC Rf.c L) := row_own h.row h.cone
theorem RDk.rise (h : RDk w g vF D L) (hr : KRise Fl.key D.F) : KRise Rf.key L := (KRise.map (key := Rf.key) (f := Rf.f) (fun _ => rfl)).1 (by rw [h.eq]; exact hr)
theorem RDk.find (h : RDk w g vF D L) (s : List UInt8) : kfnd Fl.key D.F s = (kfnd Rf.key L s).map Rf.f := by
  rw [← h.eq]
  exact kfnd_map (fun _ => rfl) L s
theorem RDk.lt (h : RDk w g vF D L) {k : Nat} (hk : fpR g vF L k) : k < w.heap.size := by
  rcases hk with rfl | hk | ⟨r, hr, hv⟩
  · exact h.blk.lt
  · exact own_hi h.row hk
  · exact own_hi (h.body r hr) hv
theorem RDk.frp {Q : Nat → Prop} (h : RDk w g vF D L) (hf : Frp Q w w') (hq : ∀ k, fpR g vF L k → ¬ Q k) : RDk w' g vF D L :=
  ⟨h.blk.frp hf (hq g (.inl rfl)), own_frp h.row hf (fun k hk => hq k (.inr (.inl hk))), h.eq, fun r hr => own_frp (h.body r hr) hf (fun k hk => hq k (.inr (.inr ⟨r, hr, hk⟩)))⟩
theorem RDk.ne_row (h : RDk w g vF D L) : vF.ownBlock ≠ some g := own_ty h.row h.blk (by decide)
theorem RDk.ne_body (h : RDk w g vF D L) {r : Rf} (hr : r ∈ L) {k : Nat} (hk : r.v.ownBlock = some k) : k ≠ g ∧ vF.ownBlock ≠ some k :=
  ⟨fun e => own_ty (h.body r hr) h.blk (by decide) (by rw [hk, e]), own_own (h.body r hr) h.row (by decide) hk⟩
theorem RDk.at (h : RDk w g vF D L) {i : Nat} (hi : i < L.length) : ∃ q c, vF = .slice (some ⟨q, 0, none⟩) L.length c ∧ L.length ≤ c ∧ w.cell? ⟨q, i * 3, none⟩ = some (.string L[i].f.n) ∧ w.cell? ⟨q, i * 3 + 1, none⟩ = some L[i].v ∧ w.cell? ⟨q, i * 3 + 2, none⟩ = some (.int .i64 (L[i].f.s : Int)) := by
  obtain ⟨q, c, rfl, hc, -, -⟩ := own_block h.row (by omega)
  refine ⟨q, c, rfl, hc, ?_, ?_, ?_⟩
  · have := own_cell h.row (j := i * 3 + 0) (u := .string L[i].f.n) (by rw [rwC_at rfC_len hi (by omega)]; rfl)
    simpa using this
  · exact own_cell h.row (j := i * 3 + 1) (u := L[i].v) (by rw [rwC_at rfC_len hi (by omega)]; rfl)
  · exact own_cell h.row (j := i * 3 + 2) (u := .int .i64 (L[i].f.s : Int)) (by rw [rwC_at rfC_len hi (by omega)]; rfl)
/-- the disk's own numbers turn -/
theorem RDk.flds {D' : Dk} (h : RDk w g vF D L) (hF : D'.F = D.F) (hf : Frp (fun k => k = g) w w') (hb : Blk w' g (rdC vF D') 80) : RDk w' g vF D' L :=
  ⟨hb, own_frp h.row hf (fun k hk e => h.ne_row (by rw [hk, e])), by rw [hF]; exact h.eq, fun r hr => own_frp (h.body r hr) hf (fun k hk e => (h.ne_body hr hk).1 e)⟩
/-- a new list of files, in memory that was just made -/
theorem RDk.setL {w9 : World} {v9 : Value} {L9 : List Rf} {D' : Dk} (h : RDk w g vF D L) (hb : Below w.heap.size w w9) (hrow : w9.ownsRow w.heap.size 86 3 v9 L9.length (rwC Rf.c L9)) (hF : L9.map Rf.f = D'.F) (hC : rdC v9 D' = rdC v9 D) (hbody : ∀ r ∈ L9, Fresh 0 w9 r.v r.f.b) :
    RDk (w9.setCell ⟨g, 1, none⟩ v9) g v9 D' L9 := by
  have h9 := h.kept hb
  have hf : Frp (fun k => k = g) w9 (w9.setCell ⟨g, 1, none⟩ v9) := (Frp.refl (fun k => k = g) w9).set (p := ⟨g, 1, none⟩) rfl _
  have hrow0 := own_mono hrow (Nat.zero_le _)
  refine ⟨by rw [hC]; exact h9.blk.set 1 _, own_frp hrow0 hf (fun k hk e => own_ty hrow0 h9.blk (by decide) (by rw [hk, e])), hF, fun r hr => own_frp (hbody r hr) hf (fun k hk e => own_ty (hbody r hr) h9.blk (by decide) (by rw [hk, e]))⟩
/-- a field of a file turns -/
theorem RDk.setAt {D' : Dk} {i j : Nat} {u : Value} {x : Rf} (h : RDk w g vF D L) (hi : i < L.length) (hj : j < 3) (hx : Rf.c x = (Rf.c L[i]).set j u) {q c : Nat} (hv : vF = .slice (some ⟨q, 0, none⟩) L.length c) (hbody : Fresh 0 w x.v x.f.b) (hF : D'.F = D.F.set i x.f) (hC : rdC vF D' = rdC vF D) :
    RDk (w.setCell ⟨q, i * 3 + j, none⟩ u) g vF D' (L.set i x) := by
  have hq : vF.ownBlock = some q := by rw [hv]; rfl
  have hf : Frp (fun k => k = q) w (w.setCell ⟨q, i * 3 + j, none⟩ u) := (Frp.refl (fun k => k = q) w).set (p := ⟨q, i * 3 + j, none⟩) rfl _
  have hb : ∀ (y : Rf), Fresh 0 w y.v y.f.b → Fresh 0 (w.setCell ⟨q, i * 3 + j, none⟩ u) y.v y.f.b := fun y hy => own_frp hy hf (fun k hk e => by subst e; exact own_own hy h.row (by decide) hk hq)
  refine ⟨by rw [hC]; exact h.blk.frp hf (fun e => h.ne_row (by rw [hq, e])), ?_, by rw [hF, ← h.eq, List.map_set], fun r hr => ?_⟩
  · have hr := h.row
    rw [hv] at hr ⊢
    have := own_set hr (k := i * 3 + j) (by omega) u
    rw [rwC_set rfC_len hi hj hx] at this
    rw [List.length_set]
    exact this
  · rcases List.mem_or_eq_of_mem_set hr with h1 | h1
    · exact hb r (h.body r h1)
    · subst h1; exact hb _ hbody
end

/-- what a call turns of the disk's blocks -/
structure RSt (w w' : World) (g : Nat) (vF vF' : Value) (L L' : List Rf) : Prop where
  fr : Frp (fpR g vF L) w w'
  new : ∀ k, fpR g vF' L' k → fpR g vF L k ∨ w.heap.size ≤ k
theorem RSt.of_below {w w' : World} {g : Nat} {vF : Value} {L : List Rf} (h : Below w.heap.size w w') : RSt w w' g vF vF L L := ⟨Frp.of_below h _, fun _ h => .inl h⟩
theorem RSt.trans {a w w' : World} {g : Nat} {v v' v2 : Value} {L L' L2 : List Rf} (h : RSt a w g v v' L L') (k : RSt w w' g v' v2 L' L2) : RSt a w' g v v2 L L2 :=
  ⟨h.fr.trans k.fr h.new, fun x hx => (k.new x hx).elim (h.new x) (fun h2 => .inr (Nat.le_trans h.fr.size h2))⟩
theorem RSt.box {a w w' : World} {g : Nat} {v v' : Value} {L L' : List Rf} (h : RSt w w' g v v' L L') (k : Below a.heap.size a w) : RSt a w' g v v' L L' :=
  ⟨(Frp.of_below k _).then h.fr, fun x hx => (h.new x hx).imp id (fun h2 => Nat.le_trans k.size h2)⟩
def RdTo (w w' : World) (g : Nat) (vF : Value) (L : List Rf) (D' : Dk) : Prop := ∃ vF' L', RDk w' g vF' D' L' ∧ RSt w w' g vF vF' L L'
theorem RdTo.same {w w' : World} {g : Nat} {vF : Value} {L : List Rf} {D : Dk} (h : RDk w g vF D L) (hb : Below w.heap.size w w') : RdTo w w' g vF L D := ⟨vF, L, h.kept hb, RSt.of_below hb⟩
theorem RdTo.box {a w w' : World} {g : Nat} {vF : Value} {L : List Rf} {D : Dk} (h : RdTo w w' g vF L D) (k : Below a.heap.size a w) : RdTo a w' g vF L D := by
  obtain ⟨v, L', h1, h2⟩ := h
  exact ⟨v, L', h1, h2.box k⟩

/-! name -/
set_option maxRecDepth 100000 in
set_option maxHeartbeats 1000000 in
theorem rname_any (s : ByteArray) (w : World) (hs : s.size ≤ maxLen) :
    Calls Try.prog 69 #[.string s] w fun e w' => e = .returned (.bool (nameB s)) ∧ w = w' := by
  unfold maxLen at hs
  by_cases h1 : 1 ≤ s.size
  · by_cases h2 : s.size ≤ 24
    · obtain ⟨l, hl⟩ : ∃ l, l = s.data.toList := ⟨_, rfl⟩
      have hsz : s.size = l.length := by rw [hl]; simp
      have HNB : Hid (nameB s = l.all nb) := Lib.hid (by rw [nameB_of s h1 h2, hl])
      have HNX : Hid (∀ k (h : k < l.length), nb l[k] = false → nameB s = false) := Lib.hid (fun k hk h => by subst hl; exact nameB_bad hk h)
      have HC : Hid (∀ j (h : j < s.size), ∃ h' : j < l.length, s[j] = l[j]) := Lib.hid (fun j hj => ⟨by omega, by subst hl; rfl⟩)
      have i1 : decide ((s.size : Int) < 1) = false := by simp; omega
      have i2 : decide ((24 : Int) < (s.size : Int)) = false := by simp; omega
      have HSZ := Lib.hid hsz
      have hl1 : l.length ≤ 9223372036854775807 := by omega
      clear hl hsz h1 h2
      go_enter Try.func69, Try.ntmps69
      go_wp2
      go_loop [3] (fun i => ∃ k : Nat, k ≤ l.length ∧ i = .int .i64 (k : Int) ∧ Hid ((l.take k).all nb = true)) (fun i => l.length - (intOf i).toNat)
      case atStart => exact ⟨0, Nat.zero_le _, rfl, by simp [Hid]⟩
      case round =>
        obtain ⟨k, hk, rfl, HD⟩ := hrel
        by_cases hlt : k < l.length
        · have hks : k < s.size := by have := HSZ.out; omega
          have i0 : (k : Int) < (s.size : Int) := by have := HSZ.out; omega
          have b0 : (0 : Int) ≤ (k : Int) := by omega
          obtain ⟨c, hcc⟩ : ∃ c, c = s[k] := ⟨_, rfl⟩
          have HCC : Hid (c = l[k]) := Lib.hid (by obtain ⟨_, h⟩ := HC.out k hks; rw [hcc, h])
          have hcc2 : s[k] = c := hcc.symm
          clear hcc
          by_cases hd1 : c.toNat < 33
          · have HR : Hid (nameB s = false) := Lib.hid (HNX.out k hlt (by rw [← HCC.out]; unfold nb; simp; omega))
            have d1 : decide ((c.toNat : Int) < 33) = true := by simp; omega
            go_wp2
            go_ret
            exact ⟨ret_bool HR.out.symm, rfl⟩
          · have d1 : decide ((c.toNat : Int) < 33) = false := by simp; omega
            by_cases hd2 : 126 < c.toNat
            · have HR : Hid (nameB s = false) := Lib.hid (HNX.out k hlt (by rw [← HCC.out]; unfold nb; simp; omega))
              have d2 : decide ((126 : Int) < (c.toNat : Int)) = true := by simp; omega
              go_wp2
              go_ret
              exact ⟨ret_bool HR.out.symm, rfl⟩
            · have d2 : decide ((126 : Int) < (c.toNat : Int)) = false := by simp; omega
              have HD2 : Hid ((l.take (k + 1)).all nb = true) := Lib.hid (by rw [List.take_succ_eq_append_getElem hlt, List.all_append, HD.out, ← HCC.out]; unfold nb; simp; omega)
              go_wp2
              go_round
              case rel => exact ⟨k + 1, hlt, by go_num, HD2⟩
              case measure => simp [intOf]; omega
        · obtain rfl : k = l.length := by omega
          have HR : Hid (nameB s = true) := Lib.hid (by rw [HNB.out]; have := HD.out; rwa [List.take_length] at this)
          have i0 : ¬ (l.length : Int) < (s.size : Int) := by have := HSZ.out; omega
          go_wp2
          go_ret
          exact ⟨ret_bool HR.out.symm, rfl⟩
    · have HR : Hid (nameB s = false) := Lib.hid (by unfold nameB; simp [h2])
      have i1 : decide ((s.size : Int) < 1) = false := by simp; omega
      have i2 : decide ((24 : Int) < (s.size : Int)) = true := by simp; omega
      clear h1 h2
      go_enter Try.func69, Try.ntmps69
      go_wp2
      go_ret
      exact ⟨ret_bool HR.out.symm, rfl⟩
  · have HR : Hid (nameB s = false) := Lib.hid (by unfold nameB; simp [h1])
    have i1 : decide ((s.size : Int) < 1) = true := by simp; omega
    clear h1
    go_enter Try.func69, Try.ntmps69
    go_wp2
    go_ret
    exact ⟨ret_bool HR.out.symm, rfl⟩

/-! asked -/
set_option maxRecDepth 100000 in
set_option maxHeartbeats 1000000 in
theorem rasked_any (g : Nat) (vF : Value) (D : Dk) (L : List Rf) (l : List ByteArray) (v : Value) (w : World) (h : RDk w g vF D L) (hv : Row w v 1 l.length (l.map Value.string)) (hl : ∀ s ∈ l, s.size ≤ maxLen) :
    Calls Try.prog 63 #[ptr g, v] w fun e w' => e = .returned (.int .i64 (D.ask l)) ∧ w = w' := by
  have HL := Lib.hid hl
  have c4 := h.blk.cell (j := 4) rfl
  obtain ⟨p, c, rfl, hc, hm, -, -, -, hat⟩ := hv
  have HAT : Hid (∀ k (hk : k < l.length), ∃ q o, p = some ⟨q, o, none⟩ ∧ w.cell? ⟨q, o + k, none⟩ = some (.string l[k])) := Lib.hid (fun k hk => by
    rcases hat with h0 | ⟨q, o, hp, ha⟩
    · have : l = [] := by simpa using h0
      subst this; simp at hk
    · exact ⟨q, o, hp, ha k _ (by simp [hk])⟩)
  have hml : maxLen ≤ 9223372036854775807 := by decide
  have hll : l.length ≤ 9223372036854775807 := by omega
  clear h hl hat hml hm hc
  cases hoff : D.off
  · have HA := Lib.hid (ask_on l hoff)
    rw [hoff] at c4
    clear hoff
    go_enter Try.func63, Try.ntmps63
    go_wp2
    go_loop [5] (fun i => ∃ k : Nat, k ≤ l.length ∧ i = .int .i64 (k : Int) ∧ Hid ((l.take k).all nameB = true)) (fun i => l.length - (intOf i).toNat)
    case atStart => exact ⟨0, Nat.zero_le _, rfl, Lib.hid (by simp)⟩
    case round =>
      obtain ⟨k, hk, rfl, HD⟩ := hrel
      by_cases hlt : k < l.length
      · obtain ⟨q, o, rfl, hc⟩ := HAT.out k hlt
        obtain ⟨s, hs⟩ : ∃ s, s = l[k] := ⟨_, rfl⟩
        rw [← hs] at hc
        have i1 : (k : Int) < (l.length : Int) := by omega
        have HSS : Hid (s.size ≤ maxLen) := Lib.hid (HL.out s (by rw [hs]; exact List.getElem_mem hlt))
        have HT : Hid ((l.take (k + 1)).all nameB = nameB s) := Lib.hid (by rw [List.take_succ_eq_append_getElem hlt, List.all_append, HD.out, ← hs]; simp)
        have HTX : Hid (nameB s = false → l.all nameB = false) := Lib.hid (fun h => by
          rw [← Bool.not_eq_true, List.all_eq_true]
          intro hh
          have := hh _ (List.getElem_mem hlt)
          rw [← hs, h] at this; cases this)
        clear hs
        cases hn : nameB s
        · have HX := Lib.hid (HTX.out hn)
          have HNM : Hid (∀ w : World, Calls Try.prog 69 #[.string s] w fun e w' => e = .returned (.bool false) ∧ w = w') := Lib.hid (fun w => by have := rname_any s w HSS.out; rwa [hn] at this)
          clear hn
          go_wp2_with (go_at_call 69; refine (HNM.out _).mono ?_; rintro e w3 ⟨rfl, rfl⟩)
          go_ret
          exact ⟨ret_int (by rw [HA.out, HX.out]; rfl), rfl⟩
        · have HX : Hid ((l.take (k + 1)).all nameB = true) := Lib.hid (by rw [HT.out, hn])
          have HNM : Hid (∀ w : World, Calls Try.prog 69 #[.string s] w fun e w' => e = .returned (.bool true) ∧ w = w') := Lib.hid (fun w => by have := rname_any s w HSS.out; rwa [hn] at this)
          clear hn
          go_wp2_with (go_at_call 69; refine (HNM.out _).mono ?_; rintro e w3 ⟨rfl, rfl⟩)
          go_round
          case rel => exact ⟨k + 1, hlt, by go_num, HX⟩
          case measure => simp [intOf]; omega
      · obtain rfl : k = l.length := by omega
        have HX : Hid (l.all nameB = true) := Lib.hid (by have := HD.out; rwa [List.take_length] at this)
        go_wp2
        go_ret
        exact ⟨ret_int (by rw [HA.out, HX.out]; rfl), rfl⟩
  · have HA := Lib.hid (ask_off l hoff)
    rw [hoff] at c4
    clear hoff
    go_enter Try.func63, Try.ntmps63
    go_wp2
    go_ret
    exact ⟨ret_int HA.out.symm, rfl⟩

/-! place -/
theorem less_lt (a b : List UInt8) : Op.bytesLess a b = decide (a < b) := by
  have e : ∀ a b : List UInt8, Op.bytesLess a b = bytesBefore a b := by
    intro a
    induction a with
    | nil => intro b; cases b <;> rfl
    | cons x a ih =>
      intro b
      cases b with
      | nil => rfl
      | cons y b =>
        show (x < y || (x == y && Op.bytesLess a b)) = (x < y || (x == y && bytesBefore a b))
        rw [ih b]
  rw [e]
  have h := before_lt a b
  cases hb : bytesBefore a b
  · have : ¬ a < b := fun h2 => by rw [h.2 h2] at hb; cases hb
    simp [this]
  · simp [h.1 hb]

theorem kfnd_mid {L : List Rf} {s : List UInt8} (hr : KRise Rf.key L) {k : Nat} (hk : k ≤ L.length) (h1 : ∀ j (h : j < L.length), j < k → L[j].key < s) (h2 : ∀ h : k < L.length, s < L[k].key) : kfnd Rf.key L s = none := by
  refine kfnd_no fun e he e2 => ?_
  obtain ⟨j, hj, rfl⟩ := List.getElem_of_mem he
  rcases Nat.lt_trichotomy j k with h | h | h
  · have := h1 j hj h
    rw [e2] at this
    exact lt_irr _ this
  · subst h
    have := h2 hj
    rw [e2] at this
    exact lt_irr _ this
  · have hk2 : k < L.length := by omega
    have h3 := List.pairwise_iff_getElem.1 hr k j hk2 hj h
    have := lt_tr (h2 hk2) h3
    rw [e2] at this
    exact lt_irr _ this
set_option maxRecDepth 100000 in
set_option maxHeartbeats 1000000 in
theorem rplace_any (g : Nat) (vF : Value) (D : Dk) (L : List Rf) (s : ByteArray) (w : World) (h : RDk w g vF D L) (hr : KRise Fl.key D.F) :
    Calls Try.prog 64 #[ptr g, .string s] w fun e w' => e = .returned (.tuple #[.int .i64 (kpl Rf.key L s.data.toList : Int), .bool (kfnd Rf.key L s.data.toList).isSome]) ∧ w = w' := by
  have H := Lib.hid h
  have HR := Lib.hid (h.rise hr)
  obtain ⟨p, c, rfl, hc, hm, -⟩ := h.shape
  have c1 := h.blk.cell (j := 1) rfl
  have hml : maxLen ≤ 9223372036854775807 := by decide
  have hll : L.length ≤ 9223372036854775807 := by omega
  clear h hr hml hm hc
  go_enter Try.func64, Try.ntmps64
  go_wp2
  go_loop [6] (fun i => ∃ k : Nat, k ≤ L.length ∧ i = .int .i64 (k : Int) ∧ Hid (∀ j (h : j < L.length), j < k → L[j].key < s.data.toList)) (fun i => L.length - (intOf i).toNat)
  case atStart => exact ⟨0, Nat.zero_le _, rfl, Lib.hid (fun j _ h => absurd h (Nat.not_lt_zero _))⟩
  case round =>
    obtain ⟨k, hk, rfl, HA⟩ := hrel
    by_cases hlt : k < L.length
    · obtain ⟨q, c', e, hc', e0, -, -⟩ := H.out.at hlt
      simp only [Value.slice.injEq] at e
      obtain ⟨rfl, -, rfl⟩ := e
      obtain ⟨nm, hnm⟩ : ∃ nm, nm = L[k].f.n := ⟨_, rfl⟩
      rw [← hnm] at e0
      have hkey : L[k].key = nm.data.toList := by rw [hnm]; rfl
      have i1 : (k : Int) < (L.length : Int) := by omega
      have b0 : (0 : Int) ≤ (k : Int) := by omega
      by_cases he : nm.data.toList = s.data.toList
      · have t0 : (nm.toList == s.toList) = true := by rw [Lib.toList_data, Lib.toList_data]; simpa using he
        have HK : Hid (kpl Rf.key L s.data.toList = k) := Lib.hid (kpl_eq hk HA.out (fun _ => by rw [hkey, he]; exact lt_irr _))
        have HF : Hid ((kfnd Rf.key L s.data.toList).isSome = true) := Lib.hid (by
          have := kfnd_of HR.out.apart (List.getElem_mem hlt)
          rw [hkey, he] at this
          rw [this]; rfl)
        clear he hkey hnm
        go_wp2
        go_ret2
        rw [HK.out, HF.out]
        exact ⟨rfl, rfl⟩
      · have t0 : (nm.toList == s.toList) = false := by rw [Lib.toList_data, Lib.toList_data]; simpa using he
        by_cases hg : s.data.toList < nm.data.toList
        · have t1 : Op.bytesLess nm.toList s.toList = false := by rw [less_lt, Lib.toList_data, Lib.toList_data]; simpa using fun h2 : nm.data.toList < s.data.toList => lt_irr _ (lt_tr hg h2)
          have HK : Hid (kpl Rf.key L s.data.toList = k) := Lib.hid (kpl_eq hk HA.out (fun _ => by rw [hkey]; exact fun h2 => lt_irr _ (lt_tr hg h2)))
          have HF : Hid ((kfnd Rf.key L s.data.toList).isSome = false) := Lib.hid (by rw [kfnd_mid HR.out hk HA.out (fun _ => by rw [hkey]; exact hg)]; rfl)
          clear he hkey hnm hg
          go_wp2
          go_ret2
          rw [HK.out, HF.out]
          exact ⟨rfl, rfl⟩
        · have t1 : Op.bytesLess nm.toList s.toList = true := by rw [less_lt, Lib.toList_data, Lib.toList_data]; simpa using (lt_tot hg (fun e => he e.symm) : nm.data.toList < s.data.toList)
          have HA2 : Hid (∀ j (h : j < L.length), j < k + 1 → L[j].key < s.data.toList) := Lib.hid (fun j hj hjk => by
            by_cases h2 : j < k
            · exact HA.out j hj h2
            · obtain rfl : j = k := by omega
              rw [hkey]
              exact lt_tot hg (fun e => he e.symm))
          clear he hkey hnm hg
          go_wp2
          go_round
          case rel => exact ⟨k + 1, hlt, by go_num, HA2⟩
          case measure => simp [intOf]; omega
    · obtain rfl : k = L.length := by omega
      have HK : Hid (kpl Rf.key L s.data.toList = L.length) := Lib.hid (kpl_eq hk HA.out (fun h => absurd h (Nat.lt_irrefl _)))
      have HF : Hid ((kfnd Rf.key L s.data.toList).isSome = false) := Lib.hid (by rw [kfnd_mid HR.out hk HA.out (fun h => absurd h (Nat.lt_irrefl _))]; rfl)
      go_wp2
      go_ret2
      rw [HK.out, HF.out]
      exact ⟨rfl, rfl⟩

/-! step -/
set_option maxRecDepth 100000 in
set_option maxHeartbeats 1000000 in
theorem rstep_no (g : Nat) (vF : Value) (D : Dk) (L : List Rf) (w : World) (h : RDk w g vF D L) (hm : D.may = false) :
    Calls Try.prog 65 #[ptr g] w fun e w' => e = .returned (.bool false) ∧ RDk w' g vF D.dead L ∧ RSt w w' g vF vF L L := by
  have H := Lib.hid h
  have h1 : D.fused = true ∧ D.fuse = 0 := by
    unfold Dk.may at hm
    simpa using hm
  have c2 := h.blk.cell (j := 2) rfl
  have c3 := h.blk.cell (j := 3) rfl
  have f4 := h.blk.free 4
  rw [h1.1] at c2
  rw [h1.2] at c3
  have d4 := h.blk.cell (j := 4) rfl
  clear h hm h1
  go_enter Try.func65, Try.ntmps65
  go_wp2
  go_ret
  have hf : Frp (fun k => k = g) w (w.setCell ⟨g, 4, none⟩ (.bool true)) := (Frp.refl (fun k => k = g) w).set (p := ⟨g, 4, none⟩) rfl _
  exact ⟨rfl, H.out.flds rfl hf (H.out.blk.set 4 _), ⟨hf.mono (fun k hk => .inl hk), fun k hk => .inl hk⟩⟩
set_option maxRecDepth 100000 in
set_option maxHeartbeats 2000000 in
theorem rstep_yes (g : Nat) (vF : Value) (D : Dk) (L : List Rf) (M : Nat) (N : Int) (w : World) (h : RDk w g vF D L) (hi : DkI D M N) (hN : N < 4611686018427387904) (hm : D.may = true) :
    Calls Try.prog 65 #[ptr g] w fun e w' => e = .returned (.bool true) ∧ RDk w' g vF D.stepped L ∧ RSt w w' g vF vF L L := by
  have H := Lib.hid h
  have c2 := h.blk.cell (j := 2) rfl
  have c3 := h.blk.cell (j := 3) rfl
  have c5 := h.blk.cell (j := 5) rfl
  have f3 := h.blk.free 3
  have f5 := h.blk.free 5
  have s1 := hi.steps.1
  have s2 := hi.steps.2
  have s3 : D.steps ≤ 4611686018427387904 := by omega
  have u1 := hi.fuse.1
  have u2 := hi.fuse.2
  have hfc : D.fused = false ∨ (D.fused = true ∧ D.fuse ≠ 0) := by
    unfold Dk.may at hm
    cases hf : D.fused
    · exact .inl rfl
    · rw [hf] at hm
      exact .inr ⟨rfl, by simpa using hm⟩
  rcases hfc with hfu | ⟨hfu, hne⟩
  · rw [hfu] at c2
    have hf : Frp (fun k => k = g) w (w.setCell ⟨g, 5, none⟩ (.int .i64 (D.steps + 1))) := (Frp.refl (fun k => k = g) w).set (p := ⟨g, 5, none⟩) rfl _
    have HW : Hid (RDk (w.setCell ⟨g, 5, none⟩ (.int .i64 (D.steps + 1))) g vF D.stepped L) := Lib.hid (h.flds rfl hf (by
      have := h.blk.set 5 (.int .i64 (D.steps + 1))
      unfold rdC at this
      simpa [rdC, Dk.stepped, hfu] using this))
    clear h hi hm hfu s2 hf
    go_enter Try.func65, Try.ntmps65
    go_wp2
    go_ret
    exact ⟨rfl, HW.out, ⟨((Frp.refl (fun k => k = g) w).set (p := ⟨g, 5, none⟩) rfl _).mono (fun k hk => .inl hk), fun k hk => .inl hk⟩⟩
  · rw [hfu] at c2
    have hne2 : (D.fuse == 0) = false := by simpa using hne
    have hf1 : Frp (fun k => k = g) w ((w.setCell ⟨g, 3, none⟩ (.int .i64 (D.fuse - 1))).setCell ⟨g, 5, none⟩ (.int .i64 (D.steps + 1))) := ((Frp.refl (fun k => k = g) w).set (p := ⟨g, 3, none⟩) rfl _).set (p := ⟨g, 5, none⟩) rfl _
    have HW : Hid (RDk ((w.setCell ⟨g, 3, none⟩ (.int .i64 (D.fuse - 1))).setCell ⟨g, 5, none⟩ (.int .i64 (D.steps + 1))) g vF D.stepped L) := Lib.hid (h.flds rfl hf1 (by
      have := (h.blk.set 3 (.int .i64 (D.fuse - 1))).set 5 (.int .i64 (D.steps + 1))
      unfold rdC at this
      simpa [rdC, Dk.stepped, hfu] using this))
    have c53 := (h.blk.set 3 (.int .i64 (D.fuse - 1))).cell (j := 5) rfl
    clear h hi hm hfu s2 hf1 hne
    go_enter Try.func65, Try.ntmps65
    go_wp2
    go_ret
    exact ⟨rfl, HW.out, ⟨(((Frp.refl (fun k => k = g) w).set (p := ⟨g, 3, none⟩) rfl _).set (p := ⟨g, 5, none⟩) rfl _).mono (fun k hk => .inl hk), fun k hk => .inl hk⟩⟩
end Go.Proofs.Ytgcemddobcjpnaa
