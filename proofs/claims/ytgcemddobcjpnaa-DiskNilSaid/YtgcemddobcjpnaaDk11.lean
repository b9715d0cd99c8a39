/- The program's disk: Crash. -/
import Derived.Test.YtgcemddobcjpnaaDk10
namespace Go.Proofs.Ytgcemddobcjpnaa
open Go.RowKit

theorem row_frp {Q : Nat → Prop} {w w' : World} {v : Value} {size n : Nat} {cs : List Value} (h : Row w v size n cs) (hf : Frp Q w w') (hg : ∀ g, v.ownBlock = some g → ¬ Q g) : Row w' v size n cs := by
  obtain ⟨p, c, hv, h1, h2, h3, h4, h5, h6⟩ := h
  refine ⟨p, c, hv, h1, h2, h3, h4, h5, ?_⟩
  rcases h6 with h6 | ⟨b, o, hp, ha⟩
  · exact .inl h6
  · exact .inr ⟨b, o, hp, fun j u hj => cell_frp (ha j u hj) hf (hg b (by rw [hv, hp]; rfl))⟩

/-- the files, the first i of them cut -/
def cutF (keep : List Int) (F : List Fl) (i : Nat) : List Fl := F.mapIdx fun j f => if j < i then Dk.keepF keep j f else f
theorem cutF_zero (keep : List Int) (F : List Fl) : cutF keep F 0 = F := by
  unfold cutF
  apply List.ext_getElem (by simp)
  intro i h1 h2
  simp
theorem cutF_all (keep : List Int) (F : List Fl) : cutF keep F F.length = F.mapIdx (Dk.keepF keep) := by
  unfold cutF
  apply List.ext_getElem (by simp)
  intro i h1 h2
  simp only [List.getElem_mapIdx]
  rw [if_pos (by simpa using h1)]
theorem cutF_len (keep : List Int) (F : List Fl) (i : Nat) : (cutF keep F i).length = F.length := by simp [cutF]
theorem cutF_at (keep : List Int) (F : List Fl) (i j : Nat) (h : j < F.length) : (cutF keep F i)[j]'(by rw [cutF_len]; exact h) = if j < i then Dk.keepF keep j F[j] else F[j] := by simp [cutF]
theorem cutF_next (keep : List Int) (F : List Fl) (i : Nat) (h : i < F.length) : (cutF keep F i).set i (Dk.keepF keep i F[i]) = cutF keep F (i + 1) := by
  apply List.ext_getElem (by simp [cutF_len])
  intro j h1 h2
  have hj : j < F.length := by rw [cutF_len] at h2; exact h2
  rw [List.getElem_set, cutF_at keep F (i + 1) j hj]
  by_cases e : i = j
  · subst e
    rw [if_pos rfl, if_pos (by omega)]
  · rw [if_neg e, cutF_at keep F i j hj]
    by_cases hlt : j < i
    · rw [if_pos hlt, if_pos (by omega)]
    · rw [if_neg hlt, if_neg (by omega)]
theorem cutF_rise {keep : List Int} {F : List Fl} (h : KRise Fl.key F) (i : Nat) : KRise Fl.key (cutF keep F i) := by
  unfold KRise at *
  rw [List.pairwise_iff_getElem] at h ⊢
  intro a c ha hc hac
  have ha' : a < F.length := by rw [cutF_len] at ha; exact ha
  have hc' : c < F.length := by rw [cutF_len] at hc; exact hc
  have e : ∀ j (hj : j < F.length), ((cutF keep F i)[j]'(by rw [cutF_len]; exact hj)).key = F[j].key := fun j hj => by
    rw [cutF_at keep F i j hj]
    split <;> rfl
  rw [e a ha', e c hc']
  exact h a c ha' hc' hac
theorem kpl_self {F : List Fl} (h : KRise Fl.key F) {i : Nat} (hi : i < F.length) : kpl Fl.key F F[i].key = i :=
  kpl_eq (by omega) (fun j hj hji => List.pairwise_iff_getElem.1 h j i hj hi hji) (fun _ => lt_irr _)
/-- the next file is cut -/
theorem cutF_put {keep : List Int} {F : List Fl} (h : KRise Fl.key F) {i : Nat} (hi : i < F.length) : kput Fl.key (cutF keep F i) (Dk.keepF keep i F[i]) = cutF keep F (i + 1) := by
  have hl : i < (cutF keep F i).length := by rw [cutF_len]; exact hi
  have hr := cutF_rise (keep := keep) h i
  have he : (cutF keep F i)[i] = F[i] := by rw [cutF_at keep F i i hi, if_neg (Nat.lt_irrefl _)]
  have hf : kfnd Fl.key (cutF keep F i) F[i].key = some F[i] := by
    have := kfnd_of hr.apart (List.getElem_mem hl)
    rwa [he] at this
  rw [kput_same (s := F[i].key) (x := Dk.keepF keep i F[i]) hr hf rfl]
  have hk := kpl_self hr hl
  rw [he] at hk
  rw [hk]
  exact cutF_next keep F i hi

set_option maxRecDepth 100000 in
set_option maxHeartbeats 2000000 in
theorem crash_bad (b mb : Nat) (D : Dk) (L : List Pf) (keep : List Int) (v : Value) (w : World) (h : PDk w b mb D L) (hk : Row w v 1 keep.length (keep.map (Value.int .i64))) (hb : Dk.fine keep = false) :
    Calls Try.prog 13 #[ptr b, v] w fun e w' => e = .returned (.int .i64 2) ∧ w = w' := by
  have H := Lib.hid h
  obtain ⟨p, c, rfl, hc, hm, -, -, -, hat⟩ := hk
  have hml : maxLen ≤ 9223372036854775807 := by decide
  have hll : keep.length ≤ 9223372036854775807 := by omega
  have HAT : Hid (∀ k (hk : k < keep.length), ∃ q o, p = some ⟨q, o, none⟩ ∧ w.cell? ⟨q, o + k, none⟩ = some (.int .i64 keep[k])) := Lib.hid (fun k hk => by
    rcases hat with h0 | ⟨q, o, hp, ha⟩
    · have : keep = [] := by simpa using h0
      subst this; simp at hk
    · exact ⟨q, o, hp, ha k _ (by simp [hk])⟩)
  have HBAD : Hid (¬ ∀ k (hk : k < keep.length), 0 ≤ keep[k]) := Lib.hid (fun hh => by
    unfold Dk.fine at hb
    rw [← Bool.not_eq_true, List.all_eq_true] at hb
    refine hb fun x hx => ?_
    obtain ⟨k, hk, rfl⟩ := List.getElem_of_mem hx
    simpa using hh k hk)
  clear h hat hml hm hc hb
  go_enter Try.func13, Try.ntmps13
  go_wp2_with (go_at_call 40; refine (none_made b mb D L _ H.out).mono ?_; rintro e w' ⟨rfl, rfl⟩)
  go_loop [15] (fun i => ∃ k : Nat, k ≤ keep.length ∧ i = .int .i64 (k : Int) ∧ Hid (∀ j (hj : j < keep.length), j < k → 0 ≤ keep[j])) (fun i => keep.length - (intOf i).toNat)
  case atStart => exact ⟨0, Nat.zero_le _, rfl, Lib.hid (fun j _ hj => absurd hj (Nat.not_lt_zero _))⟩
  case round =>
    obtain ⟨k, hk, rfl, HG⟩ := hrel
    by_cases hlt : k < keep.length
    · obtain ⟨q, o, rfl, hc⟩ := HAT.out k hlt
      obtain ⟨x, hx⟩ : ∃ x, x = keep[k] := ⟨_, rfl⟩
      rw [← hx] at hc
      have i1 : (k : Int) < (keep.length : Int) := by omega
      have HX := Lib.hid hx
      clear hx
      by_cases h0 : x < 0
      · have d0 : decide (x < 0) = true := by simp; omega
        go_wp2
        go_ret
        exact ⟨rfl, rfl⟩
      · have d0 : decide (x < 0) = false := by simp; omega
        have HG2 : Hid (∀ j (hj : j < keep.length), j < k + 1 → 0 ≤ keep[j]) := Lib.hid (fun j hj hjk => by
          by_cases hjk2 : j < k
          · exact HG.out j hj hjk2
          · obtain rfl : j = k := by omega
            rw [← HX.out]; omega)
        go_wp2
        go_round
        case rel => exact ⟨k + 1, hlt, by go_num, HG2⟩
        case measure => simp [intOf]; omega
    · exact absurd (fun j hj => HG.out j hj (by omega)) HBAD.out

/-- between two rounds: the first i files are cut -/
structure CrR (b mb : Nat) (keep : List Int) (D : Dk) (L : List Pf) (w0 w : World) (i : Nat) (L' : List Pf) : Prop where
  pd : PDk w b mb (D.withF (cutF keep D.F i)) L'
  st : DSt w0 w b mb L L'
theorem keepN_some {keep : List Int} {i : Nat} (h : i < keep.length) (f : Fl) : Dk.keepN keep i f = min keep[i].toNat (f.b.length - f.s) := by
  unfold Dk.keepN
  rw [List.getElem?_eq_getElem h]
theorem keepN_none {keep : List Int} {i : Nat} (h : ¬ i < keep.length) (f : Fl) : Dk.keepN keep i f = 0 := by
  unfold Dk.keepN
  rw [List.getElem?_eq_none (by omega)]
/-- behind a file that is cut -/
theorem CrR.next2 {b mb : Nat} {keep : List Int} {D : Dk} {L : List Pf} {w0 w w8 : World} {i n : Nat} {L' : List Pf} (h : CrR b mb keep D L w0 w i L') (hr : KRise Fl.key D.F) (hs : ∀ f ∈ D.F, f.s ≤ f.b.length) (hi : i < D.F.length) {p : Pf} (hp : p ∈ L') (hpf : p.f = D.F[i]) {q : Option Addr} {c : Nat} (hv : p.v = .slice q p.f.b.length c) (hn : n = Dk.keepN keep i p.f)
    (hb8 : Below (w.setCell ⟨p.a, 1, none⟩ (.int .i64 ((p.f.s : Int) + (n : Int)))).heap.size (w.setCell ⟨p.a, 1, none⟩ (.int .i64 ((p.f.s : Int) + (n : Int)))) w8) :
    ∃ L2, CrR b mb keep D L w0 (w8.setCell ⟨p.a, 0, none⟩ (.slice q (p.f.s + n) c)) (i + 1) L2 := by
  subst hn
  have ecast : (p.f.s : Int) + (Dk.keepN keep i p.f : Int) = ((p.f.s + Dk.keepN keep i p.f : Nat) : Int) := by omega
  rw [ecast] at hb8
  have hr' : KRise Fl.key (D.withF (cutF keep D.F i)).F := cutF_rise hr i
  have hrL := h.pd.rise hr'
  have hkp : kfnd Pf.key L' p.key = some p := kfnd_of hrL.apart hp
  have hfr : Frp (fun k => k = p.a ∨ p.v.ownBlock = some k) w (w8.setCell ⟨p.a, 0, none⟩ (.slice q (p.f.s + Dk.keepN keep i p.f) c)) :=
    (((Frp.refl (fun k => k = p.a ∨ p.v.ownBlock = some k) w).set (p := ⟨p.a, 1, none⟩) (.inl rfl) _).next hb8).set (p := ⟨p.a, 0, none⟩) (.inl rfl) _
  have hle := keepN_le keep i p.f
  have hsl : p.f.s ≤ p.f.b.length := by rw [hpf]; exact hs _ (List.getElem_mem hi)
  have hfile : Blk (w8.setCell ⟨p.a, 0, none⟩ (.slice q (p.f.s + Dk.keepN keep i p.f) c)) p.a [.slice q (p.f.s + Dk.keepN keep i p.f) c, .int .i64 ((p.f.s + Dk.keepN keep i p.f : Nat) : Int)] 69 := (((h.pd.file p hp).set 1 _).kept hb8).set 0 _
  have hne : ∀ j, (Value.slice q (p.f.s + Dk.keepN keep i p.f) c).ownBlock ≠ some (⟨p.a, j, none⟩ : Addr).block := fun j e => by
    refine (h.pd.ne_v hp).2.2 p hp ?_
    rw [hv]
    cases q <;> exact e
  have hbody : Fresh 0 (w8.setCell ⟨p.a, 0, none⟩ (.slice q (p.f.s + Dk.keepN keep i p.f) c)) (.slice q (p.f.s + Dk.keepN keep i p.f) c) (p.f.b.take (p.f.s + Dk.keepN keep i p.f)) := by
    have hb := h.pd.body p hp
    rw [hv] at hb
    have hcut : w.ownsRow 0 5 1 (.slice q (p.f.s + Dk.keepN keep i p.f) c) (p.f.s + Dk.keepN keep i p.f) ((p.f.b.map B).take (p.f.s + Dk.keepN keep i p.f)) := by
      rcases hb.2 with ⟨e, h0⟩ | ⟨g, cap, cur, e, -, -, -⟩
      · simp only [Value.slice.injEq] at e
        obtain ⟨rfl, hn, rfl⟩ := e
        have h1 : p.f.s + Dk.keepN keep i p.f = 0 := by omega
        rw [h1]
        exact World.ownsRow_nil _ _ _ _
      · simp only [Value.slice.injEq] at e
        obtain ⟨rfl, -, rfl⟩ := e
        have := own_cut hb (m := p.f.s + Dk.keepN keep i p.f) (by omega)
        simpa using this
    unfold Fresh
    rw [List.length_take, Nat.min_eq_left (by omega), List.map_take]
    exact own_other (own_keep (own_other hcut (hne 1) _) hb8) (hne 0) _
  have hpd := h.pd.turn (D' := D.withF (cutF keep D.F (i + 1))) (p := p) (x := ⟨Dk.keepF keep i p.f, p.a, .slice q (p.f.s + Dk.keepN keep i p.f) c⟩) hr' hkp rfl (by
    show cutF keep D.F (i + 1) = kput Fl.key (cutF keep D.F i) (Dk.keepF keep i p.f)
    rw [hpf, cutF_put hr hi]) rfl hfr hfile hbody (fun k hk => .inl (by rw [hv]; cases q <;> exact hk))
  refine ⟨_, hpd, h.st.trans ⟨hfr.mono (fun k hk => .inr (.inr ⟨p, hp, hk⟩)), fun k hk => ?_⟩⟩
  rcases fp_put hk with h1 | h1 | h1
  · exact .inl h1
  · exact .inl (.inr (.inr ⟨p, hp, .inl h1⟩))
  · exact .inl (.inr (.inr ⟨p, hp, .inr (by rw [hv]; cases q <;> exact h1)⟩))
theorem CrR.next0 {b mb : Nat} {keep : List Int} {D : Dk} {L : List Pf} {w0 w w8 : World} {i : Nat} {L' : List Pf} (h : CrR b mb keep D L w0 w i L') (hr : KRise Fl.key D.F) (hs : ∀ f ∈ D.F, f.s ≤ f.b.length) (hi : i < D.F.length) {p : Pf} (hp : p ∈ L') (hpf : p.f = D.F[i]) {q : Option Addr} {c : Nat} (hv : p.v = .slice q p.f.b.length c) (hn : 0 = Dk.keepN keep i p.f)
    (hb8 : Below (w.setCell ⟨p.a, 1, none⟩ (.int .i64 (p.f.s : Int))).heap.size (w.setCell ⟨p.a, 1, none⟩ (.int .i64 (p.f.s : Int))) w8) :
    ∃ L2, CrR b mb keep D L w0 (w8.setCell ⟨p.a, 0, none⟩ (.slice q p.f.s c)) (i + 1) L2 := by
  have := h.next2 (n := 0) (w8 := w8) hr hs hi hp hpf hv hn (by simpa using hb8)
  simpa using this

section
variable (b mb : Nat) (D : Dk) (L : List Pf) (M : Nat) (N : Int) (keep : List Int) (v : Value) (w : World) (h : PDk w b mb D L) (hi : DkI D M N) (hM : M ≤ 100000) (hk : Row w v 1 keep.length (keep.map (Value.int .i64))) (hap : keep ≠ [] → ∀ g, fpP b mb L g → v.ownBlock ≠ some g)
include h hi hM hk hap
set_option maxRecDepth 100000 in
set_option maxHeartbeats 4000000 in
theorem crash_ok (hb : Dk.fine keep = true) (hwf : ∀ x ∈ keep, x ≤ 9223372036854775807) : Calls Try.prog 13 #[ptr b, v] w fun e w' => e = .returned (.int .i64 0) ∧ DkTo w w' b mb L (D.crash keep).2 := by
  have HF : Hid ((D.crash keep).2 = { (D.withF (D.F.mapIdx (Dk.keepF keep))).free with off := false }) := Lib.hid (by unfold Dk.crash; rw [if_pos hb])
  have H := Lib.hid h
  have HI := Lib.hid hi
  have HLEN : Hid (D.F.length ≤ 100000) := Lib.hid (Nat.le_trans hi.len hM)
  have HKR := Lib.hid hk
  have HAP := Lib.hid hap
  have c0 := h.blk.cell (j := 0) rfl
  have HKE := Lib.hid (callsIn_wide.1 (Try.maps_Keys_42 (some mb) w))
  have HSO := Lib.hid (names_sorted b mb D L w h hi.rise (Nat.le_trans hi.len hM))
  have HPOS : Hid (∀ k (hk : k < keep.length), 0 ≤ keep[k] ∧ keep[k] ≤ 9223372036854775807) := Lib.hid (fun k hk => ⟨by
    unfold Dk.fine at hb
    have := List.all_eq_true.1 hb keep[k] (List.getElem_mem hk)
    simpa using this, hwf _ (List.getElem_mem hk)⟩)
  obtain ⟨p, c, rfl, hc, hm, -, -, -, hat⟩ := hk
  have hml : maxLen ≤ 9223372036854775807 := by decide
  have hll : keep.length ≤ 9223372036854775807 := by omega
  have hbd : ∀ k (hk : k < keep.length), ∃ q o, p = some ⟨q, o, none⟩ ∧ w.cell? ⟨q, o + k, none⟩ = some (.int .i64 keep[k]) := (fun k hk => by
    rcases hat with h0 | ⟨q, o, hp, ha⟩
    · have : keep = [] := by simpa using h0
      subst this; simp at hk
    · exact ⟨q, o, hp, ha k _ (by simp [hk])⟩)
  have HAT := Lib.hid hbd
  clear h hat hml hm hc hb hi hM hap hwf hbd
  go_enter Try.func13, Try.ntmps13
  go_wp2_with (go_at_call 40; refine (none_made b mb D L _ H.out).mono ?_; rintro e w' ⟨rfl, rfl⟩)
  go_loop [15] (fun i => ∃ k : Nat, k ≤ keep.length ∧ i = .int .i64 (k : Int)) (fun i => keep.length - (intOf i).toNat)
  case atStart => exact ⟨0, Nat.zero_le _, rfl⟩
  case round =>
    obtain ⟨k, hk, rfl⟩ := hrel
    by_cases hlt : k < keep.length
    · obtain ⟨q, o, rfl, hc⟩ := HAT.out k hlt
      have hx0 := HPOS.out k hlt
      obtain ⟨x, hx⟩ : ∃ x, x = keep[k] := ⟨_, rfl⟩
      rw [← hx] at hc hx0
      have i1 : (k : Int) < (keep.length : Int) := by omega
      have d0 : decide (x < 0) = false := by simp; omega
      clear hx hx0
      go_wp2
      go_round
      case rel => exact ⟨k + 1, hlt, by go_num⟩
      case measure => simp [intOf]; omega
    · obtain rfl : k = keep.length := by omega
      clear hlt hk
      go_wp2_with (first
        | (go_at_call 42; refine HKE.out.mono ?_; rintro e w' ⟨rfl, rfl⟩)
        | (go_at_call 41; refine HSO.out.mono ?_; rintro e w3 ⟨v3, rfl, ho3, hb3⟩; obtain ⟨p3, k3, rfl, hk3, hm3⟩ := own_slice ho3; have HO3 := Lib.hid ho3; have HB3 : Hid (Below w.heap.size w w3) := Lib.hid ((below_alloc w _).trans (hb3.mono (by omega))); clear ho3 hb3 hm3))
      have HCR0 : Hid (CrR b mb keep D L w3 w3 0 L) := Lib.hid ⟨by rw [cutF_zero]; exact H.out.kept HB3.out, DSt.of_below (Below.refl _ _)⟩
      have HLT : Hid (∀ g, fpP b mb L g → g < w.heap.size) := Lib.hid (fun g hg => H.out.lt hg)
      have hll3 : D.F.length ≤ 9223372036854775807 := by have := HLEN.out; omega
      clear c0
      go_loopw [29] (fun i wr => ∃ (k : Nat) (L' : List Pf), k ≤ D.F.length ∧ i = .int .i64 (k : Int) ∧ Hid (CrR b mb keep D L w3 wr k L')) (fun i _ => D.F.length - (intOf i).toNat)
      case atStart => exact ⟨0, L, Nat.zero_le _, rfl, HCR0⟩
      case round =>
        obtain ⟨k, L', hk, rfl, HC⟩ := hrel
        by_cases hlt : k < D.F.length
        · have hCR := HC.out
          have hlL : k < L'.length := by rw [hCR.pd.len]; show k < (cutF keep D.F k).length; rw [cutF_len]; exact hlt
          obtain ⟨p', hp'⟩ : ∃ p', p' = L'[k] := ⟨_, rfl⟩
          have hpf : p'.f = D.F[k] := by
            have h1 : (L'.map Pf.f)[k]'(by simpa using hlL) = (cutF keep D.F k)[k]'(by rw [cutF_len]; exact hlt) := by
              have := hCR.pd.eq
              simp only [this]
              rfl
            rw [List.getElem_map, ← hp', cutF_at keep D.F k k hlt, if_neg (Nat.lt_irrefl _)] at h1
            exact h1
          have hmem : p' ∈ L' := by rw [hp']; exact List.getElem_mem hlL
          have hkf : kfnd Pf.key L' p'.f.n.data.toList = some p' := kfnd_of (hCR.pd.rise (cutF_rise HI.out.rise k)).apart hmem
          obtain ⟨n, hn⟩ : ∃ n, n = Dk.keepN keep k p'.f := ⟨_, rfl⟩
          have hnl := keepN_le keep k p'.f
          rw [← hn] at hnl
          have hsl : p'.f.s ≤ p'.f.b.length := by rw [hpf]; exact HI.out.syn _ (List.getElem_mem hlt)
          have hbl : p'.f.b.length ≤ 1073741824 := by
            have h1 : (p'.f.b.length : Int) ≤ D.room := by rw [hpf]; exact HI.out.one_le (List.getElem_mem hlt)
            have := HI.out.room
            omega
          have HG := Lib.hid (kget_some hkf)
          have HNS : Hid (p'.f.n.size ≤ maxLen) := Lib.hid (by have := HI.out.nam _ (List.getElem_mem hlt); rw [← hpf] at this; unfold maxLen; omega)
          obtain ⟨pv, pc, hv, hpc, -⟩ := own_slice (hCR.pd.body p' hmem)
          have hfile := hCR.pd.file p' hmem
          rw [hv] at hfile
          have HFI0 := Lib.hid hfile
          have d0 := hfile.cell (j := 0) rfl
          have d1 := hfile.cell (j := 1) rfl
          have e1 := hfile.free 1
          have c0 := hCR.pd.blk.cell (j := 0) rfl
          obtain ⟨g3, cap3, e3, -, -, -⟩ := own_block HO3.out (by omega)
          simp only [Value.slice.injEq] at e3
          obtain ⟨rfl, -, rfl⟩ := e3
          have nm : wr.cell? ⟨g3, k, none⟩ = some (.string p'.f.n) := cell_frp (own_cell HO3.out (j := k) (u := .string p'.f.n) (by rw [hpf]; simp [hlt])) hCR.st.fr (fun hq => by
            have h1 := HLT.out g3 hq
            have h2 := own_lo HO3.out (g := g3) rfl
            omega)
          have HMM := Lib.hid hmem
          have HPF := Lib.hid hpf
          have HVV := Lib.hid hv
          have HNN := Lib.hid hn
          have i1 : (k : Int) < (D.F.length : Int) := by omega
          have b0 : (0 : Int) ≤ (p'.f.s : Int) := by omega
          have b1 : (p'.f.s : Int) ≤ (p'.f.b.length : Int) := by omega
          have b2 : (p'.f.b.length : Int) ≤ 1073741824 := by omega
          have b3 : (n : Int) ≤ (p'.f.b.length : Int) - (p'.f.s : Int) := by omega
          have b4 : (0 : Int) ≤ (n : Int) := by omega
          have b5 : (p'.f.b.length : Int) ≤ (pc : Int) := by omega
          have u1 : IntKind.i64.wrap ((p'.f.b.length : Int) - (p'.f.s : Int)) = (p'.f.b.length : Int) - (p'.f.s : Int) := by rw [IntKind.wrap_i64]; omega
          clear hCR hlL hp' hpf hkf hn hnl hsl hbl hfile hv hmem
          by_cases hkk : k < keep.length
          · have i2 : (k : Int) < (keep.length : Int) := by omega
            obtain ⟨q, o, rfl, hc⟩ := HAT.out k hkk
            have kc : wr.cell? ⟨q, o + k, none⟩ = some (.int .i64 keep[k]) := cell_frp (cell_kept hc HB3.out) HC.out.st.fr (fun hq => HAP.out (fun e => by rw [e] at hkk; simp at hkk) q hq rfl)
            obtain ⟨x, hx⟩ : ∃ x, x = keep[k] := ⟨_, rfl⟩
            rw [← hx] at kc
            have hmn : min x ((p'.f.b.length : Int) - (p'.f.s : Int)) = (n : Int) := by
              have h1 := (HPOS.out k hkk).1
              have h2 := HNN.out
              rw [keepN_some hkk, ← hx] at h2
              rw [← hx] at h1
              omega
            clear hc hx
            go_upto_region 15 with (at_lookup; refine wpList_slook _ rfl _ _ _ rfl 9 66 Try.underlying9 Try.underlying52 (fzero _) mb (kM Pf.key Pf.val L') rfl HC.out.pd.map p'.f.n rfl HNS.out ?_; rw [HG.out.1]; simp only [Option.getD_some])
            have q5 := Past.cell kc
            have q6 := Past.cell d0
            have q7 := Past.cell d1
            refine wp_region_past (by kernel_rfl) (by kernel_rfl) ?_
            repeat (go_big_quiet_step (fail))
            refine wpQuiet_nil ?_
            intro _ hw'
            obtain ⟨s', hw''⟩ := hw'
            subst hw''
            obtain ⟨w5, h5, e5⟩ : ∃ w5, Below wr.heap.size wr w5 ∧ w5 = s'.val := ⟨_, s'.h, rfl⟩
            rw [← e5]
            have HB5 := Lib.hid h5
            clear h5 e5 q5 q6 q7
            have HFW : Hid (Blk w5 p'.a [.slice pv p'.f.b.length pc, .int .i64 (p'.f.s : Int)] 69) := Lib.hid (HFI0.out.kept HB5.out)
            have HCW : Hid (CrR b mb keep D L w3 w5 k L') := Lib.hid ⟨HC.out.pd.kept HB5.out, HC.out.st.trans (DSt.of_below HB5.out)⟩
            clear d0 d1 e1
            have d1 := HFW.out.cell (j := 1) rfl
            have e1 := HFW.out.free 1
            go_upto_region 17 with fail
            obtain ⟨w6, hw6⟩ : ∃ w6, w6 = w5.setCell ⟨p'.a, 1, none⟩ (.int .i64 ((p'.f.s : Int) + (n : Int))) := ⟨_, rfl⟩
            have HF6 : Hid (Blk w6 p'.a [.slice pv p'.f.b.length pc, .int .i64 ((p'.f.s : Int) + (n : Int))] 69) := Lib.hid (by rw [hw6]; exact HFW.out.set 1 _)
            have HN6 : Hid (∀ w8, Below w6.heap.size w6 w8 → ∃ L2, CrR b mb keep D L w3 (w8.setCell ⟨p'.a, 0, none⟩ (.slice pv (p'.f.s + n) pc)) (k + 1) L2) := Lib.hid (fun w8 hb => by
              rw [hw6] at hb
              exact HCW.out.next2 HI.out.rise HI.out.syn hlt HMM.out HPF.out HVV.out HNN.out hb)
            rw [← hw6]
            clear hw6 d1 e1
            have q0 := Past.blk HF6.out (j := 0) rfl
            have q1 := Past.blk HF6.out (j := 1) rfl
            refine wp_region_past_one rfl (by kernel_rfl) (by kernel_rfl) (by kernel_rfl) ?_
            repeat (go_big_quiet_step (fail))
            refine wpQuiet_nil ?_
            intro _ hw'
            obtain ⟨s2, hw''⟩ := hw'
            subst hw''
            obtain ⟨w8, h8, e8⟩ : ∃ w8, Below w6.heap.size w6 w8 ∧ w8 = s2.val := ⟨_, s2.h, rfl⟩
            rw [← e8]
            have HF8 := Lib.hid (HF6.out.kept h8)
            obtain ⟨L2, hL2⟩ := HN6.out w8 h8
            have HL2 := Lib.hid hL2
            clear h8 e8 q0 q1 hL2
            have d0 := HF8.out.cell (j := 0) rfl
            have e0 := HF8.out.free 0
            go_wp2
            go_roundw
            case rel => exact ⟨k + 1, L2, hlt, by go_num, HL2⟩
            case measure => simp [intOf]; omega
          · have i2 : ¬ (k : Int) < (keep.length : Int) := by omega
            have hn0 : n = 0 := by rw [HNN.out, keepN_none hkk]
            subst hn0
            go_upto_region 16 with (at_lookup; refine wpList_slook _ rfl _ _ _ rfl 9 66 Try.underlying9 Try.underlying52 (fzero _) mb (kM Pf.key Pf.val L') rfl HC.out.pd.map p'.f.n rfl HNS.out ?_; rw [HG.out.1]; simp only [Option.getD_some])
            have HFW : Hid (Blk wr p'.a [.slice pv p'.f.b.length pc, .int .i64 (p'.f.s : Int)] 69) := Lib.hid HFI0.out
            have HCW : Hid (CrR b mb keep D L w3 wr k L') := Lib.hid HC.out
            clear d0 d1 e1
            have d1 := HFW.out.cell (j := 1) rfl
            have e1 := HFW.out.free 1
            go_upto_region 17 with fail
            obtain ⟨w6, hw6⟩ : ∃ w6, w6 = wr.setCell ⟨p'.a, 1, none⟩ (.int .i64 (p'.f.s : Int)) := ⟨_, rfl⟩
            have HF6 : Hid (Blk w6 p'.a [.slice pv p'.f.b.length pc, .int .i64 (p'.f.s : Int)] 69) := Lib.hid (by rw [hw6]; exact HFW.out.set 1 _)
            have HN6 : Hid (∀ w8, Below w6.heap.size w6 w8 → ∃ L2, CrR b mb keep D L w3 (w8.setCell ⟨p'.a, 0, none⟩ (.slice pv p'.f.s pc)) (k + 1) L2) := Lib.hid (fun w8 hb => by
              rw [hw6] at hb
              exact HCW.out.next0 HI.out.rise HI.out.syn hlt HMM.out HPF.out HVV.out HNN.out hb)
            (try rw [← hw6])
            clear hw6 d1 e1
            have q0 := Past.blk HF6.out (j := 0) rfl
            have q1 := Past.blk HF6.out (j := 1) rfl
            refine wp_region_past_one rfl (by kernel_rfl) (by kernel_rfl) (by kernel_rfl) ?_
            repeat (go_big_quiet_step (fail))
            refine wpQuiet_nil ?_
            intro _ hw'
            obtain ⟨s2, hw''⟩ := hw'
            subst hw''
            obtain ⟨w8, h8, e8⟩ : ∃ w8, Below w6.heap.size w6 w8 ∧ w8 = s2.val := ⟨_, s2.h, rfl⟩
            rw [← e8]
            have HF8 := Lib.hid (HF6.out.kept h8)
            obtain ⟨L2, hL2⟩ := HN6.out w8 h8
            have HL2 := Lib.hid hL2
            clear h8 e8 q0 q1 hL2
            have d0 := HF8.out.cell (j := 0) rfl
            have e0 := HF8.out.free 0
            go_wp2
            go_roundw
            case rel => exact ⟨k + 1, L2, hlt, by go_num, HL2⟩
            case measure => simp [intOf]; omega
        · obtain rfl : k = D.F.length := by omega
          have hpd := HC.out.pd
          have c2 := (hpd.blk.set 4 (.bool false)).cell (j := 2) rfl
          have c4 := hpd.blk.cell (j := 4) rfl
          have f4 := hpd.blk.free 4
          have f2 := (hpd.blk.set 4 (.bool false)).free 2
          have c3 := ((hpd.blk.set 4 (.bool false)).set 2 (.bool false)).cell (j := 3) rfl
          have f3 := ((hpd.blk.set 4 (.bool false)).set 2 (.bool false)).free 3
          clear hpd
          go_wp2
          go_ret
          rw [HF.out]
          have hf : Frp (fun k => k = b) wr (((wr.setCell ⟨b, 4, none⟩ (.bool false)).setCell ⟨b, 2, none⟩ (.bool false)).setCell ⟨b, 3, none⟩ (.int .i64 0)) := (((Frp.refl (fun k => k = b) wr).set (p := ⟨b, 4, none⟩) rfl _).set (p := ⟨b, 2, none⟩) rfl _).set (p := ⟨b, 3, none⟩) rfl _
          refine ⟨rfl, L', HC.out.pd.flds (D' := { (D.withF (D.F.mapIdx (Dk.keepF keep))).free with off := false }) ?_ hf ?_, (HC.out.st.trans ⟨hf.mono (fun k hk => .inl hk), fun k hk => .inl hk⟩).box HB3.out⟩
          · show D.F.mapIdx (Dk.keepF keep) = cutF keep D.F D.F.length
            rw [cutF_all]
          · exact (((HC.out.pd.blk.set 4 _).set 2 _).set 3 _)
end
end Go.Proofs.Ytgcemddobcjpnaa
