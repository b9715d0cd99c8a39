/- The document's disk: Crash. -/
import Derived.Test.YtgcemddobcjpnaaRd7
import Derived.Test.YtgcemddobcjpnaaDk11
namespace Go.Proofs.Ytgcemddobcjpnaa
open Go.RowKit

set_option maxRecDepth 100000 in
set_option maxHeartbeats 2000000 in
theorem rcrash_bad (g : Nat) (vF : Value) (D : Dk) (L : List Rf) (keep : List Int) (v : Value) (w : World) (h : RDk w g vF D L) (hk : Row w v 1 keep.length (keep.map (Value.int .i64))) (hb : Dk.fine keep = false) :
    Calls Try.prog 53 #[ptr g, v] w fun e w' => e = .returned (.int .i64 2) ∧ w = w' := by
  have H := Lib.hid h
  obtain ⟨p, c, rfl, hc, hm, -, -, -, hat⟩ := hk
  have hml : maxLen ≤ 9223372036854775807 := by decide
  have hll : keep.length ≤ 9223372036854775807 := by omega
  have HAT : Hid (∀ k (hk : k < keep.length), ∃ q o, p = some ⟨q, o, none⟩ ∧ w.cell? ⟨q, o + k, none⟩ = some (.int .i64 keep[k])) := Lib.hid (fun k hk => by
    rcases hat with h0 | ⟨q, o, hp, ha⟩
    · have : keep = [] := by simpa using h0
      subst this; simp at hk
    · exact ⟨q, o, hp, ha k _ (by simp [hk])⟩)
  have HBAD : Hid (¬ ∀ k (hk : k < keep.length), 0 ≤ keep[k]) := Lib.hid (fun hh => by
    unfold Dk.fine at hb
    rw [← Bool.not_eq_true, List.all_eq_true] at hb
    refine hb fun x hx => ?_
    obtain ⟨k, hk, rfl⟩ := List.getElem_of_mem hx
    simpa using hh k hk)
  clear h hat hml hm hc hb
  go_enter Try.func53, Try.ntmps53
  go_wp2
  go_loop [5] (fun i => ∃ k : Nat, k ≤ keep.length ∧ i = .int .i64 (k : Int) ∧ Hid (∀ j (hj : j < keep.length), j < k → 0 ≤ keep[j])) (fun i => keep.length - (intOf i).toNat)
  case atStart => exact ⟨0, Nat.zero_le _, rfl, Lib.hid (fun j _ hj => absurd hj (Nat.not_lt_zero _))⟩
  case round =>
    obtain ⟨k, hk, rfl, HG⟩ := hrel
    by_cases hlt : k < keep.length
    · obtain ⟨q, o, rfl, hc⟩ := HAT.out k hlt
      obtain ⟨x, hx⟩ : ∃ x, x = keep[k] := ⟨_, rfl⟩
      rw [← hx] at hc
      have i1 : (k : Int) < (keep.length : Int) := by omega
      have HX := Lib.hid hx
      clear hx
      by_cases h0 : x < 0
      · have d0 : decide (x < 0) = true := by simp; omega
        go_wp2
        go_ret
        exact ⟨rfl, rfl⟩
      · have d0 : decide (x < 0) = false := by simp; omega
        have HG2 : Hid (∀ j (hj : j < keep.length), j < k + 1 → 0 ≤ keep[j]) := Lib.hid (fun j hj hjk => by
          by_cases hjk2 : j < k
          · exact HG.out j hj hjk2
          · obtain rfl : j = k := by omega
            rw [← HX.out]; omega)
        go_wp2
        go_round
        case rel => exact ⟨k + 1, hlt, by go_num, HG2⟩
        case measure => simp [intOf]; omega
    · exact absurd (fun j hj => HG.out j hj (by omega)) HBAD.out

/-- between two rounds: the first i files are cut -/
structure CrD (g : Nat) (vF : Value) (keep : List Int) (D : Dk) (L : List Rf) (w0 w : World) (i : Nat) (L' : List Rf) : Prop where
  rd : RDk w g vF (D.withF (cutF keep D.F i)) L'
  st : RSt w0 w g vF vF L L'
theorem CrD.len {g : Nat} {vF : Value} {keep : List Int} {D : Dk} {L : List Rf} {w0 w : World} {i : Nat} {L' : List Rf} (h : CrD g vF keep D L w0 w i L') : L'.length = D.F.length := by
  rw [h.rd.len]
  exact cutF_len _ _ _
theorem CrD.kept {g : Nat} {vF : Value} {keep : List Int} {D : Dk} {L : List Rf} {w0 w w' : World} {i : Nat} {L' : List Rf} (h : CrD g vF keep D L w0 w i L') (hb : Below w.heap.size w w') : CrD g vF keep D L w0 w' i L' := ⟨h.rd.kept hb, h.st.trans (RSt.of_below hb)⟩
theorem CrD.file {g : Nat} {vF : Value} {keep : List Int} {D : Dk} {L : List Rf} {w0 w : World} {i : Nat} {L' : List Rf} (h : CrD g vF keep D L w0 w i L') (hi : i < D.F.length) : ∃ r q c pv pc, ∃ hl : i < L'.length, r = L'[i] ∧ r.f = D.F[i] ∧ vF = .slice (some ⟨q, 0, none⟩) D.F.length c ∧ r.v = .slice pv r.f.b.length pc ∧ r.f.b.length ≤ pc := by
  have hl : i < L'.length := by rw [h.len]; exact hi
  obtain ⟨q, c, hq, -⟩ := h.rd.at hl
  obtain ⟨pv, pc, hv, hpc, -⟩ := own_slice (h.rd.body _ (List.getElem_mem hl))
  refine ⟨L'[i], q, c, pv, pc, hl, rfl, ?_, by rw [hq, h.len], hv, hpc⟩
  have h1 : (L'.map Rf.f)[i]'(by simpa using hl) = (cutF keep D.F i)[i]'(by rw [cutF_len]; exact hi) := by
    have := h.rd.eq
    simp only [this]
    rfl
  rw [List.getElem_map, cutF_at keep D.F i i hi, if_neg (Nat.lt_irrefl _)] at h1
  exact h1
theorem CrD.cells {g : Nat} {vF : Value} {keep : List Int} {D : Dk} {L : List Rf} {w0 w : World} {i : Nat} {L' : List Rf} (h : CrD g vF keep D L w0 w i L') (hi : i < D.F.length) {r : Rf} {q c : Nat} {pv : Option Addr} {pc : Nat} (hl : i < L'.length) (hr : r = L'[i]) (hv : vF = .slice (some ⟨q, 0, none⟩) D.F.length c) (hrv : r.v = .slice pv r.f.b.length pc) :
    w.cell? ⟨g, 1, none⟩ = some (.slice (some ⟨q, 0, none⟩) D.F.length c) ∧ w.cell? ⟨q, i * 3 + 1, none⟩ = some (.slice pv r.f.b.length pc) ∧ w.cell? ⟨q, i * 3 + 2, none⟩ = some (.int .i64 (r.f.s : Int)) ∧ (∀ j, w.frozen? ⟨q, j, none⟩ = false) := by
  obtain ⟨q2, c2, e, -, -, e1, e2⟩ := h.rd.at hl
  have h7 := h.rd.row
  rw [hv] at e
  rw [hv, ← h.len] at h7
  simp only [Value.slice.injEq, Option.some.injEq, Addr.mk.injEq, and_true, true_and] at e
  obtain ⟨rfl, -, rfl⟩ := e
  rw [← hr] at e1 e2
  exact ⟨by rw [← hv]; exact h.rd.blk.cell (j := 1) rfl, by rw [← hrv]; exact e1, e2, own_free h7⟩
theorem CrD.next {g : Nat} {vF : Value} {keep : List Int} {D : Dk} {L : List Rf} {w0 w w8 : World} {i n : Nat} {L' : List Rf} (h : CrD g vF keep D L w0 w i L') (hs : ∀ f ∈ D.F, f.s ≤ f.b.length) (hi : i < D.F.length) {r : Rf} (hl : i < L'.length) (hr : r = L'[i]) (hrf : r.f = D.F[i]) {q c : Nat} {pv : Option Addr} {pc : Nat} (hv : vF = .slice (some ⟨q, 0, none⟩) D.F.length c) (hrv : r.v = .slice pv r.f.b.length pc) (hn : n = Dk.keepN keep i r.f)
    (hb : Below w.heap.size w w8) :
    ∃ L2, CrD g vF keep D L w0 ((w8.setCell ⟨q, i * 3 + 1, none⟩ (.slice pv (r.f.s + n) pc)).setCell ⟨q, i * 3 + 2, none⟩ (.int .i64 ((r.f.s + n : Nat) : Int))) (i + 1) L2 := by
  subst hn
  have h8 := h.kept hb
  have hle := keepN_le keep i r.f
  have hsl : r.f.s ≤ r.f.b.length := by rw [hrf]; exact hs _ (List.getElem_mem hi)
  have hv' : vF = .slice (some ⟨q, 0, none⟩) L'.length c := by rw [h.len]; exact hv
  have hbody : Fresh 0 w8 (.slice pv (r.f.s + Dk.keepN keep i r.f) pc) (r.f.b.take (r.f.s + Dk.keepN keep i r.f)) := by
    have hb := h8.rd.body r (by rw [hr]; exact List.getElem_mem hl)
    rw [hrv] at hb
    unfold Fresh
    rw [List.length_take, Nat.min_eq_left (by omega), List.map_take]
    rcases hb.2 with ⟨e, h0⟩ | ⟨g, cap, cur, e, -, -, -⟩
    · simp only [Value.slice.injEq] at e
      obtain ⟨rfl, hn, rfl⟩ := e
      have h1 : r.f.s + Dk.keepN keep i r.f = 0 := by omega
      rw [h1]
      exact World.ownsRow_nil _ _ _ _
    · simp only [Value.slice.injEq] at e
      obtain ⟨rfl, -, rfl⟩ := e
      have := own_cut hb (m := r.f.s + Dk.keepN keep i r.f) (by omega)
      simpa using this
  have h1 := h8.rd.setAt (i := i) (j := 1) (u := .slice pv (r.f.s + Dk.keepN keep i r.f) pc) (x := ⟨{ r.f with b := r.f.b.take (r.f.s + Dk.keepN keep i r.f) }, .slice pv (r.f.s + Dk.keepN keep i r.f) pc⟩) (D' := D.withF ((cutF keep D.F i).set i { r.f with b := r.f.b.take (r.f.s + Dk.keepN keep i r.f) })) hl (by omega) (by rw [← hr]; rfl) hv' hbody rfl rfl
  have hl1 : i < (L'.set i ⟨{ r.f with b := r.f.b.take (r.f.s + Dk.keepN keep i r.f) }, .slice pv (r.f.s + Dk.keepN keep i r.f) pc⟩).length := by rw [List.length_set]; exact hl
  have h2 := h1.setAt (i := i) (j := 2) (u := .int .i64 ((r.f.s + Dk.keepN keep i r.f : Nat) : Int)) (x := ⟨Dk.keepF keep i r.f, .slice pv (r.f.s + Dk.keepN keep i r.f) pc⟩) (D' := D.withF (cutF keep D.F (i + 1))) hl1 (by omega) (by rw [List.getElem_set_self]; rfl) (by rw [List.length_set]; exact hv') (h1.body ⟨{ r.f with b := r.f.b.take (r.f.s + Dk.keepN keep i r.f) }, .slice pv (r.f.s + Dk.keepN keep i r.f) pc⟩ (List.mem_set hl _)) (by
    show cutF keep D.F (i + 1) = ((cutF keep D.F i).set i _).set i _
    rw [List.set_set, hrf, cutF_next]) rfl
  have hq : fpR g vF L' q := .inr (.inl (by rw [hv]; rfl))
  have hfr : Frp (fpR g vF L') w ((w8.setCell ⟨q, i * 3 + 1, none⟩ (.slice pv (r.f.s + Dk.keepN keep i r.f) pc)).setCell ⟨q, i * 3 + 2, none⟩ (.int .i64 ((r.f.s + Dk.keepN keep i r.f : Nat) : Int))) := ((Frp.of_below hb _).set (p := ⟨q, i * 3 + 1, none⟩) hq _).set (p := ⟨q, i * 3 + 2, none⟩) hq _
  have hown : ∀ y, (Value.slice pv (r.f.s + Dk.keepN keep i r.f) pc).ownBlock = some y → fpR g vF L' y := fun y hy => .inr (.inr ⟨r, by rw [hr]; exact List.getElem_mem hl, by rw [hrv]; cases pv <;> exact hy⟩)
  refine ⟨_, h2, h.st.trans ⟨hfr, fun y hy => .inl ?_⟩⟩
  rcases fpR_set hy with h3 | h3
  · rcases fpR_set h3 with h4 | h4
    · exact h4
    · exact hown y h4
  · exact hown y h3

set_option maxRecDepth 100000 in
set_option maxHeartbeats 4000000 in
theorem rcrash_ok (g : Nat) (vF : Value) (D : Dk) (L : List Rf) (M : Nat) (N : Int) (keep : List Int) (v : Value) (w : World) (h : RDk w g vF D L) (hi : DkI D M N) (hM : M ≤ 100000) (hk : Row w v 1 keep.length (keep.map (Value.int .i64))) (hap : keep ≠ [] → ∀ y, fpR g vF L y → v.ownBlock ≠ some y) (hb : Dk.fine keep = true) (hwf : ∀ x ∈ keep, x ≤ 9223372036854775807) :
    Calls Try.prog 53 #[ptr g, v] w fun e w' => e = .returned (.int .i64 0) ∧ RdTo w w' g vF L (D.crash keep).2 := by
  have HF : Hid ((D.crash keep).2 = { (D.withF (D.F.mapIdx (Dk.keepF keep))).free with off := false }) := Lib.hid (by unfold Dk.crash; rw [if_pos hb])
  have HI := Lib.hid hi
  have HLEN : Hid (D.F.length ≤ 100000) := Lib.hid (Nat.le_trans hi.len hM)
  have HAP := Lib.hid hap
  have HPOS : Hid (∀ k (hk : k < keep.length), 0 ≤ keep[k] ∧ keep[k] ≤ 9223372036854775807) := Lib.hid (fun k hk => ⟨by
    unfold Dk.fine at hb
    have := List.all_eq_true.1 hb keep[k] (List.getElem_mem hk)
    simpa using this, hwf _ (List.getElem_mem hk)⟩)
  obtain ⟨p, c, rfl, hc, hm, -, -, -, hat⟩ := hk
  have hml : maxLen ≤ 9223372036854775807 := by decide
  have hll : keep.length ≤ 9223372036854775807 := by omega
  have HAT : Hid (∀ k (hk : k < keep.length), ∃ q o, p = some ⟨q, o, none⟩ ∧ w.cell? ⟨q, o + k, none⟩ = some (.int .i64 keep[k])) := Lib.hid (fun k hk => by
    rcases hat with h0 | ⟨q, o, hp, ha⟩
    · have : keep = [] := by simpa using h0
      subst this; simp at hk
    · exact ⟨q, o, hp, ha k _ (by simp [hk])⟩)
  have HC0 : Hid (CrD g vF keep D L w w 0 L) := Lib.hid ⟨by rw [cutF_zero]; exact h, RSt.of_below (Below.refl _ _)⟩
  have hl3 : D.F.length ≤ 100000 := HLEN.out
  clear h hat hml hm hc hb hi hM hap hwf
  go_enter Try.func53, Try.ntmps53
  go_wp2
  go_loop [5] (fun i => ∃ k : Nat, k ≤ keep.length ∧ i = .int .i64 (k : Int)) (fun i => keep.length - (intOf i).toNat)
  case atStart => exact ⟨0, Nat.zero_le _, rfl⟩
  case round =>
    obtain ⟨k, hk, rfl⟩ := hrel
    by_cases hlt : k < keep.length
    · obtain ⟨q, o, rfl, hc⟩ := HAT.out k hlt
      have hx0 := HPOS.out k hlt
      obtain ⟨x, hx⟩ : ∃ x, x = keep[k] := ⟨_, rfl⟩
      rw [← hx] at hc hx0
      have i1 : (k : Int) < (keep.length : Int) := by omega
      have d0 : decide (x < 0) = false := by simp; omega
      clear hx hx0
      go_wp2
      go_round
      case rel => exact ⟨k + 1, hlt, by go_num⟩
      case measure => simp [intOf]; omega
    · obtain rfl : k = keep.length := by omega
      clear hlt hk
      go_wp2
      go_loopw [6] (fun i wr => ∃ (k : Nat) (L' : List Rf), k ≤ D.F.length ∧ i = .int .i64 (k : Int) ∧ Hid (CrD g vF keep D L w wr k L')) (fun i _ => D.F.length - (intOf i).toNat)
      case atStart => exact ⟨0, L, Nat.zero_le _, rfl, HC0⟩
      case round =>
        obtain ⟨k, L', hk, rfl, HC⟩ := hrel
        by_cases hlt : k < D.F.length
        · obtain ⟨r, q, c, pv, pc, hl, hr, hrf, hv, hrv, hpc⟩ := HC.out.file hlt
          obtain ⟨n, hn⟩ : ∃ n, n = Dk.keepN keep k r.f := ⟨_, rfl⟩
          have hnl := keepN_le keep k r.f
          rw [← hn] at hnl
          have hsl : r.f.s ≤ r.f.b.length := by rw [hrf]; exact HI.out.syn _ (List.getElem_mem hlt)
          have hbl : r.f.b.length ≤ 1073741824 := by
            have h1 : (r.f.b.length : Int) ≤ D.room := by rw [hrf]; exact HI.out.one_le (List.getElem_mem hlt)
            have := HI.out.room
            omega
          have HCELL : Hid (∀ w6, Below wr.heap.size wr w6 → w6.cell? ⟨g, 1, none⟩ = some (.slice (some ⟨q, 0, none⟩) D.F.length c) ∧ w6.cell? ⟨q, k * 3 + 1, none⟩ = some (.slice pv r.f.b.length pc) ∧ w6.cell? ⟨q, k * 3 + 2, none⟩ = some (.int .i64 (r.f.s : Int)) ∧ (∀ j, w6.frozen? ⟨q, j, none⟩ = false)) := Lib.hid (fun w6 hb => (HC.out.kept hb).cells hlt hl hr hv hrv)
          have HNX : Hid (∀ w8, Below wr.heap.size wr w8 → ∃ L2, CrD g vF keep D L w ((w8.setCell ⟨q, k * 3 + 1, none⟩ (.slice pv (r.f.s + n) pc)).setCell ⟨q, k * 3 + 2, none⟩ (.int .i64 ((r.f.s + n : Nat) : Int))) (k + 1) L2) := Lib.hid (fun w8 hb => HC.out.next HI.out.syn hlt hl hr hrf hv hrv hn hb)
          have HQB : Hid (∀ (w8 : World), Below wr.heap.size wr w8 → (w8.setCell ⟨q, k * 3 + 1, none⟩ (.slice pv (r.f.s + n) pc)).cell? ⟨g, 1, none⟩ = some (.slice (some ⟨q, 0, none⟩) D.F.length c) ∧ ∀ j, (w8.setCell ⟨q, k * 3 + 1, none⟩ (.slice pv (r.f.s + n) pc)).frozen? ⟨q, j, none⟩ = false) := Lib.hid (fun w8 hb => by
            have h8 := HC.out.kept hb
            have hne : q ≠ g := fun e => h8.rd.ne_row (by rw [hv, ← e]; rfl)
            have hf : Frp (fun y => y = q) w8 (w8.setCell ⟨q, k * 3 + 1, none⟩ (.slice pv (r.f.s + n) pc)) := (Frp.refl (fun y => y = q) w8).set (p := ⟨q, k * 3 + 1, none⟩) rfl _
            refine ⟨cell_frp (h8.cells hlt hl hr hv hrv).1 hf (fun e => hne e.symm), fun j => ?_⟩
            have hrow := h8.rd.row
            rw [hv, ← h8.len] at hrow
            exact own_free (own_set hrow (k := k * 3 + 1) (by have := h8.len; omega) (.slice pv (r.f.s + n) pc)) j)
          have HQC : Hid (∀ (w8 : World), Below wr.heap.size wr w8 → (w8.setCell ⟨q, k * 3 + 1, none⟩ (.slice pv (r.f.s + n) pc)).cell? ⟨q, k * 3 + 2, none⟩ = some (.int .i64 (r.f.s : Int))) := Lib.hid (fun w8 hb => by
            rw [World.cell?_setCell_other _ _ _ _ (by intro e; simp at e)]
            exact ((HC.out.kept hb).cells hlt hl hr hv hrv).2.2.1)
          have HNN := Lib.hid hn
          obtain ⟨x0, x1, x2, -⟩ := HCELL.out wr (Below.refl _ _)
          have i1 : (k : Int) < (D.F.length : Int) := by omega
          have b0 : (0 : Int) ≤ (k : Int) := by omega
          have b1 : (0 : Int) ≤ (r.f.s : Int) := by omega
          have b2 : (r.f.s : Int) ≤ (r.f.b.length : Int) := by omega
          have b3 : (n : Int) ≤ (r.f.b.length : Int) - (r.f.s : Int) := by omega
          have b4 : (0 : Int) ≤ (n : Int) := by omega
          have b5 : (r.f.b.length : Int) ≤ (pc : Int) := by omega
          have b6 : (r.f.b.length : Int) ≤ 1073741824 := by omega
          have ecast : ((r.f.s + n : Nat) : Int) = (r.f.s : Int) + (n : Int) := by omega
          have u1 : IntKind.i64.wrap ((r.f.b.length : Int) - (r.f.s : Int)) = (r.f.b.length : Int) - (r.f.s : Int) := by rw [IntKind.wrap_i64]; omega
          have u2 : IntKind.i64.wrap ((r.f.s : Int) + (n : Int)) = (r.f.s : Int) + (n : Int) := by rw [IntKind.wrap_i64]; omega
          rw [ecast] at HNX
          clear hl hr hrf hv hrv hpc hn hnl hsl hbl ecast
          by_cases hkk : k < keep.length
          · have i2 : (k : Int) < (keep.length : Int) := by omega
            obtain ⟨q0, o, rfl, hc⟩ := HAT.out k hkk
            have kc : wr.cell? ⟨q0, o + k, none⟩ = some (.int .i64 keep[k]) := cell_frp hc HC.out.st.fr (fun hq => HAP.out (fun e => by rw [e] at hkk; simp at hkk) q0 hq rfl)
            obtain ⟨x, hx⟩ : ∃ x, x = keep[k] := ⟨_, rfl⟩
            rw [← hx] at kc
            have hmn : min x ((r.f.b.length : Int) - (r.f.s : Int)) = (n : Int) := by
              have h1 := (HPOS.out k hkk).1
              have h2 := HNN.out
              rw [keepN_some hkk, ← hx] at h2
              rw [← hx] at h1
              omega
            clear hc hx hkk
            go_upto_region 11 with fail
            have q5 := Past.cell kc
            have q6 := Past.cell x0
            have q7 := Past.cell x1
            refine wp_region_past (by kernel_rfl) (by kernel_rfl) ?_
            repeat (go_big_quiet_step (fail))
            refine wpQuiet_nil ?_
            intro _ hw'
            obtain ⟨s', hw''⟩ := hw'
            subst hw''
            obtain ⟨w5, h5, e5⟩ : ∃ w5, Below wr.heap.size wr w5 ∧ w5 = s'.val := ⟨_, s'.h, rfl⟩
            rw [← e5]
            have HB5 := Lib.hid h5
            clear h5 e5 q5 q6 q7 x0 x1 x2 kc
            obtain ⟨x0, x1, x2, -⟩ := HCELL.out w5 HB5.out
            go_upto_region 12 with fail
            have q6 := Past.cell x0
            have q7 := Past.cell x1
            refine wp_region_past_one rfl (by kernel_rfl) (by kernel_rfl) (by kernel_rfl) ?_
            repeat (go_big_quiet_step (fail))
            refine wpQuiet_nil ?_
            intro _ hw'
            obtain ⟨s', hw''⟩ := hw'
            subst hw''
            obtain ⟨w6, h6, e6⟩ : ∃ w6, Below w5.heap.size w5 w6 ∧ w6 = s'.val := ⟨_, s'.h, rfl⟩
            rw [← e6]
            have HB6 := Lib.hid (below_and HB5.out h6)
            clear h6 e6 q6 q7 x0 x1 x2
            obtain ⟨-, x1, -, x4⟩ := HCELL.out w6 HB6.out
            have f1 := x4 (k * 3 + 1)
            obtain ⟨y0, y4⟩ := HQB.out w6 HB6.out
            have y2 := HQC.out w6 HB6.out
            have f2 := y4 (k * 3 + 2)
            obtain ⟨L2, hL2⟩ := HNX.out w6 HB6.out
            have HL2 := Lib.hid hL2
            clear x4 y4 hL2
            go_wp2
            go_roundw
            case rel => exact ⟨k + 1, L2, hlt, by go_num, HL2⟩
            case measure => simp [intOf]; omega
          · have i2 : ¬ (k : Int) < (keep.length : Int) := by omega
            have hn0 : n = 0 := by rw [HNN.out, keepN_none hkk]
            subst hn0
            simp only [Nat.add_zero, Int.ofNat_zero, Int.add_zero, Int.natCast_zero] at HNX HQB HQC
            clear hkk u2 b3 b4
            go_upto_region 12 with fail
            have q6 := Past.cell x0
            have q7 := Past.cell x1
            refine wp_region_past_one rfl (by kernel_rfl) (by kernel_rfl) (by kernel_rfl) ?_
            repeat (go_big_quiet_step (fail))
            refine wpQuiet_nil ?_
            intro _ hw'
            obtain ⟨s', hw''⟩ := hw'
            subst hw''
            obtain ⟨w6, h6, e6⟩ : ∃ w6, Below wr.heap.size wr w6 ∧ w6 = s'.val := ⟨_, s'.h, rfl⟩
            rw [← e6]
            have HB6 := Lib.hid h6
            clear h6 e6 q6 q7 x0 x1 x2
            obtain ⟨-, x1, -, x4⟩ := HCELL.out w6 HB6.out
            have f1 := x4 (k * 3 + 1)
            obtain ⟨y0, y4⟩ := HQB.out w6 HB6.out
            have y2 := HQC.out w6 HB6.out
            have f2 := y4 (k * 3 + 2)
            obtain ⟨L2, hL2⟩ := HNX.out w6 HB6.out
            have HL2 := Lib.hid hL2
            clear x4 y4 hL2
            go_wp2
            go_roundw
            case rel => exact ⟨k + 1, L2, hlt, by go_num, HL2⟩
            case measure => simp [intOf]; omega
        · obtain rfl : k = D.F.length := by omega
          obtain ⟨D1, hD1⟩ : ∃ D1, D1 = D.withF (cutF keep D.F D.F.length) := ⟨_, rfl⟩
          have hrd := HC.out.rd
          rw [← hD1] at hrd
          have HRD := Lib.hid hrd
          have hb4 := hrd.blk.set 4 (.bool false)
          have hf4 : Frp (fun k => k = g) wr (wr.setCell ⟨g, 4, none⟩ (.bool false)) := (Frp.refl (fun k => k = g) wr).set (p := ⟨g, 4, none⟩) rfl _
          have HR4 : Hid (RDk (wr.setCell ⟨g, 4, none⟩ (.bool false)) g vF { D1 with off := false } L') := Lib.hid (hrd.flds rfl hf4 hb4)
          have HFR := Lib.hid (rfree_any g vF { D1 with off := false } L' _ HR4.out)
          have HF4 := Lib.hid hf4
          have HLL := Lib.hid hrd.len
          obtain ⟨pq, cq, hvq, -⟩ := hrd.shape
          have hlq : L'.length = D.F.length := HC.out.len
          have c1 := hrd.blk.cell (j := 1) rfl
          rw [hvq, hlq] at c1
          have c4 := hrd.blk.cell (j := 4) rfl
          have f4 := hrd.blk.free 4
          have HD1 : Hid ({ D1 with off := false }.free = { (D.withF (D.F.mapIdx (Dk.keepF keep))).free with off := false }) := Lib.hid (by rw [hD1, cutF_all]; rfl)
          clear hrd hb4 hf4 hvq hlq hD1
          go_wp2_with (go_at_call 52; refine HFR.out.mono ?_; rintro e w7 ⟨rfl, hd⟩; have HD7 := Lib.hid hd; clear hd)
          go_ret
          rw [HF.out, ← HD1.out]
          obtain ⟨v9, L9, h9, s9⟩ := HD7.out
          exact ⟨rfl, v9, L9, h9, (HC.out.st.trans ⟨HF4.out.mono (fun y hy => .inl hy), fun y hy => .inl hy⟩).trans s9⟩
end Go.Proofs.Ytgcemddobcjpnaa
