/- Texts of one proof, laid together: Rd7, Dk11, Rd8, Dtw, Dop, IRows, Dlv. No condition of ours. -/
import Derived.Test.YtgcemddobcjpnaaDK5
namespace Go.Proofs.Ytgcemddobcjpnaa
open Go.RowKit

theorem sub_src {w : World} {q : Option Addr} {c at_ e : Nat} {l : List UInt8} (h : Rd w (.slice q l.length c) l) (ha : at_ ≤ e) (he : e ≤ l.length) : Src Try.prog 1 29 (.slice (if c = at_ then q else Option.map (fun x => x.add at_) q) (e - at_) (c - at_)) (e - at_) ((l.map B).drop at_ |>.take (e - at_)) w := by
  have h1 : Row w (.slice q e c) 1 e ((l.map B).take (e * 1)) := row_first (size := 1) h (by simpa using he)
  have h2 := row_rest h1 ha
  simp only [Nat.mul_one] at h2
  rw [List.drop_take] at h2
  exact h2.src Try.underlying29
/-- between two rounds -/
structure RaR (g : Nat) (vF : Value) (M : Nat) (N : Int) (L : List Rf) (X : Int × Dk) (s : List UInt8) (k : Nat) (v : Value) (l : List UInt8) (w0 w : World) (n at_ : Nat) (D : Dk) (L' : List Rf) (r : Rf) : Prop where
  rd : RDk w g vF D L'
  inv : DkI D M (N + l.length - (l.drop at_).length)
  fits : Dk.bytes D.F + ((l.drop at_).length : Int) ≤ D.room
  find : kfnd Rf.key L' s = some r
  pl : kpl Rf.key L' s = k
  fuel : (l.drop at_).length < n
  eq : Dk.more n D r.f (l.drop at_) = X
  st : RSt w0 w g vF vF L L'
  src : Rd w v l
  ap : l ≠ [] → ∀ y, fpR g vF L' y → v.ownBlock ≠ some y
  atl : at_ ≤ l.length + 64
section
variable {g : Nat} {vF : Value} {M : Nat} {N : Int} {L : List Rf} {X : Int × Dk} {s : List UInt8} {k : Nat} {v : Value} {l : List UInt8} {w0 w w' : World} {n at_ : Nat} {D : Dk} {L' : List Rf} {r : Rf}

theorem RaR.row (h : RaR g vF M N L X s k v l w0 w n at_ D L' r) : ∃ q c pv pc, vF = .slice (some ⟨q, 0, none⟩) L'.length c ∧ r.v = .slice pv r.f.b.length pc ∧ k < L'.length := by
  obtain ⟨hk, he⟩ := kfnd_place (h.rd.rise h.inv.rise) h.find
  rw [h.pl] at hk
  obtain ⟨q, c, hq, -⟩ := h.rd.at hk
  obtain ⟨pv, pc, hv, -, -⟩ := own_slice (h.rd.body r (kfnd_mem h.find).1)
  exact ⟨q, c, pv, pc, hq, hv, hk⟩
theorem RaR.cells (h : RaR g vF M N L X s k v l w0 w n at_ D L' r) {q : Nat} {c : Nat} {pv : Option Addr} {pc : Nat} (hv : vF = .slice (some ⟨q, 0, none⟩) L'.length c) (hr : r.v = .slice pv r.f.b.length pc) {w6 : World} {D1 : Dk} (h6 : RDk w6 g vF D1 L') :
    w6.cell? ⟨g, 1, none⟩ = some (.slice (some ⟨q, 0, none⟩) L'.length c) ∧ w6.cell? ⟨q, k * 3 + 1, none⟩ = some (.slice pv r.f.b.length pc) ∧ w6.frozen? ⟨q, k * 3 + 1, none⟩ = false := by
  obtain ⟨hk, he⟩ := kfnd_place (h.rd.rise h.inv.rise) h.find
  simp only [h.pl] at hk he
  obtain ⟨q2, c2, e, -, -, e1, -⟩ := h6.at hk
  have h7 := h6.row
  rw [hv] at e h7
  simp only [Value.slice.injEq, Option.some.injEq, Addr.mk.injEq, and_true, true_and] at e
  obtain ⟨rfl, rfl⟩ := e
  rw [he] at e1
  exact ⟨by rw [← hv]; exact h6.blk.cell (j := 1) rfl, by rw [← hr]; exact e1, own_free h7 _⟩
/-- behind a round -/
theorem RaR.next {w5 w6 : World} {v6 : Value} (h : RaR g vF M N L X s k v l w0 w (n + 1) at_ D L' r) (hlt : at_ < l.length) (hm : D.may = true) {q c : Nat} (hv : vF = .slice (some ⟨q, 0, none⟩) L'.length c)
    (h5 : RDk w5 g vF D.stepped L') (s5 : RSt w w5 g vF vF L' L') (hb : Below w5.heap.size w5 w6) (f6 : w6.ownsRow w5.heap.size 5 1 v6 (r.f.b ++ (l.drop at_).take 64).length ((r.f.b ++ (l.drop at_).take 64).map B)) :
    RaR g vF M N L X s k v l w0 (w6.setCell ⟨q, k * 3 + 1, none⟩ v6) n (at_ + 64) (D.stepped.addB r.f ((l.drop at_).take 64)) (L'.set k ⟨{ r.f with b := r.f.b ++ (l.drop at_).take 64 }, v6⟩) ⟨{ r.f with b := r.f.b ++ (l.drop at_).take 64 }, v6⟩ := by
  have hr := h.inv.rise
  obtain ⟨hk, he⟩ := kfnd_place (h.rd.rise hr) h.find
  simp only [h.pl] at hk he
  have hne : l.drop at_ ≠ [] := fun e => by
    have : (l.drop at_).length = 0 := by rw [e]; rfl
    rw [List.length_drop] at this
    omega
  have hln : l ≠ [] := fun e => by rw [e] at hlt; simp at hlt
  have hkey := (kfnd_mem h.find).2
  have hfk : kfnd Fl.key D.stepped.F r.f.key = some r.f := by
    have := h.rd.find r.f.key
    have h2 : kfnd Rf.key L' r.f.key = some r := by rw [show r.f.key = s from hkey]; exact h.find
    rw [h2] at this
    exact this
  have hs := h.inv.stepped hm
  obtain ⟨x, hx⟩ : ∃ x, x = (l.drop at_).take 64 := ⟨_, rfl⟩
  have hcut : x.length + (l.drop (at_ + 64)).length = (l.drop at_).length := by rw [hx, ← List.drop_drop, List.length_take, List.length_drop (i := 64)]; omega
  have hpos : 1 ≤ x.length := by
    have : (l.drop at_).length ≠ 0 := fun e => hne (List.eq_nil_of_length_eq_zero e)
    rw [hx, List.length_take]; omega
  have hfit : Dk.bytes D.F + (x.length : Int) ≤ D.room := by have := h.fits; omega
  rw [← hx] at f6 ⊢
  have h6 := h5.kept hb
  have hset := h6.setAt (i := k) (j := 1) (u := v6) (x := ⟨{ r.f with b := r.f.b ++ x }, v6⟩) (D' := D.stepped.addB r.f x) hk (by omega) (by rw [he]; rfl) hv (own_mono f6 (Nat.zero_le _)) (by
    have := put_set h6 hr h.find (f := { r.f with b := r.f.b ++ x }) hkey
    rw [h.pl] at this
    exact this) rfl
  have hq : fpR g vF L' q := .inr (.inl (by rw [hv]; rfl))
  have hfr : Frp (fpR g vF L') w (w6.setCell ⟨q, k * 3 + 1, none⟩ v6) := (s5.fr.next hb).set (p := ⟨q, k * 3 + 1, none⟩) hq _
  have hst : RSt w (w6.setCell ⟨q, k * 3 + 1, none⟩ v6) g vF vF L' (L'.set k ⟨{ r.f with b := r.f.b ++ x }, v6⟩) := ⟨hfr, fun y hy => by
    rcases fpR_set hy with h1 | h1
    · exact .inl h1
    · exact .inr (Nat.le_trans s5.fr.size (own_lo f6 h1))⟩
  have hinv := hs.addB (f := r.f) hfk x hfit
  have hkl : kpl Rf.key (L'.set k ⟨{ r.f with b := r.f.b ++ x }, v6⟩) s = k := by
    have h1 := h.pl
    have e : ∀ (L1 L2 : List Rf), L1.map Rf.key = L2.map Rf.key → kpl Rf.key L1 s = kpl Rf.key L2 s := fun L1 L2 hh => by
      have h2 := kpl_map (key := Rf.key) (key' := id) (f := Rf.key) (fun _ => rfl) L1 s
      have h3 := kpl_map (key := Rf.key) (key' := id) (f := Rf.key) (fun _ => rfl) L2 s
      rw [← h2, ← h3, hh]
    rw [e _ L' ?_]
    · exact h1
    · rw [List.map_set]
      apply List.ext_getElem (by simp)
      intro j h2 h3
      rw [List.getElem_set]
      split
      · next e2 =>
        subst e2
        rw [List.getElem_map, he]
        rfl
      · rfl
  refine ⟨hset, ?_, ?_, ?_, hkl, ?_, ?_, h.st.trans hst, rd_frp h.src hfr (fun y hy hq => h.ap hln y hq hy), fun _ y hy e => ?_, by omega⟩
  · exact hinv.mono (Nat.le_refl _) (by omega)
  · rw [bytes_addB hs (f := r.f) hfk]
    show Dk.bytes D.F + _ + _ ≤ D.room
    have := h.fits
    omega
  · have := kfnd_of (key := Rf.key) ((hset.rise hinv.rise).apart) (e := ⟨{ r.f with b := r.f.b ++ x }, v6⟩) (List.mem_set hk _)
    rw [show Rf.key ⟨{ r.f with b := r.f.b ++ x }, v6⟩ = s from hkey] at this
    exact this
  · have := h.fuel; omega
  · rw [← h.eq, more_yes hne hm, List.drop_drop, ← hx]
  · rcases hst.new y hy with h1 | h1
    · exact h.ap hln y h1 e
    · obtain ⟨b2, e2, h3⟩ := rd_blk h.src hln
      rw [e] at e2
      cases e2
      omega
end

section
variable (g : Nat) (vF : Value) (D : Dk) (L : List Rf) (M : Nat) (N : Int) (s : ByteArray) (v : Value) (l : List UInt8) (w : World) (h : RDk w g vF D L) (hi : DkI D M N) (hM : M ≤ 100000) (hN : N + l.length < 4611686018427387904) (hs : s.size ≤ maxLen) (hrd : Rd w v l) (hap : l ≠ [] → ∀ y, fpR g vF L y → v.ownBlock ≠ some y)
include h hi hs
set_option maxRecDepth 100000 in
set_option maxHeartbeats 2000000 in
theorem rappend_no (hno : D.ask [s] = 0 → D.get s = none) : Calls Try.prog 47 #[ptr g, .string s, v] w fun e w' => e = .returned (.int .i64 (D.append s l).1) ∧ RdTo w w' g vF L (D.append s l).2 := by
  have hb0 := below_alloc w (.cells #[.string s] 9)
  have HB0 := Lib.hid hb0
  have h0 := h.kept hb0
  have H := Lib.hid h
  have hr := hi.rise
  by_cases ha : D.ask [s] = 0
  · have HA := Lib.hid (rask0 [s] _ h0 (row1r w s 9) (by simpa using hs) ha)
    have hg := hno ha
    have hp : kfnd Rf.key L s.data.toList = none := by
      cases hq : kfnd Rf.key L s.data.toList with
      | none => rfl
      | some p => rw [h.get_some hq] at hg; cases hg
    have HF : Hid (D.append s l = (6, D)) := Lib.hid (by unfold Dk.append; rw [if_neg (by rw [ha]; simp), hg])
    have HP := Lib.hid (place_no h0 hr hp)
    clear h h0 hi hs hr ha hp hb0 hg hno
    go_enter Try.func47, Try.ntmps47
    go_wp2_with (first
      | (go_at_call 63; refine HA.out.mono ?_; rintro e w3 ⟨rfl, rfl⟩)
      | (go_at_call 64; refine HP.out.mono ?_; rintro e w3 ⟨rfl, rfl⟩))
    go_ret
    rw [HF.out]
    exact ⟨rfl, RdTo.same H.out HB0.out⟩
  · have HA := Lib.hid (rasked_any g vF D L [s] _ _ h0 (row1r w s 9) (by simpa using hs))
    have HF : Hid (D.append s l = (D.ask [s], D)) := Lib.hid (by unfold Dk.append; rw [if_pos ha])
    obtain ⟨q, hq⟩ : ∃ q, q = D.ask [s] := ⟨_, rfl⟩
    rw [← hq] at ha HF HA
    have q0 : (q != 0) = true := by simpa using ha
    clear h h0 hi hs hr ha hq hb0 hno
    go_enter Try.func47, Try.ntmps47
    go_wp2_with (go_at_call 63; refine HA.out.mono ?_; rintro e w3 ⟨rfl, rfl⟩)
    go_ret
    rw [HF.out]
    exact ⟨rfl, RdTo.same H.out HB0.out⟩
include hrd
set_option maxRecDepth 100000 in
set_option maxHeartbeats 2000000 in
theorem rappend_full (ha : D.ask [s] = 0) (p : Rf) (hp : kfnd Rf.key L s.data.toList = some p) (hl : D.left < (l.length : Int)) : Calls Try.prog 47 #[ptr g, .string s, v] w fun e w' => e = .returned (.int .i64 8) ∧ RdTo w w' g vF L D := by
  obtain ⟨q, c, rfl, -, -, -⟩ := hrd.parts
  have hb0 := below_alloc w (.cells #[.string s] 9)
  have HB0 := Lib.hid hb0
  have h0 := h.kept hb0
  have H := Lib.hid h
  have hr := hi.rise
  have HA := Lib.hid (rask0 [s] _ h0 (row1r w s 9) (by simpa using hs) ha)
  have HP := Lib.hid (place_yes h0 hr hp)
  have HLF := Lib.hid (rleft_any g vF D L _ h0 M N hi)
  have i1 : decide (D.left < (l.length : Int)) = true := by simpa using hl
  obtain ⟨k, hkk⟩ : ∃ k, k = kpl Rf.key L s.data.toList := ⟨_, rfl⟩
  simp only [← hkk] at HP
  clear h h0 hi hs hr ha hp hb0 hrd hl hkk
  go_enter Try.func47, Try.ntmps47
  go_wp2_with (first
    | (go_at_call 63; refine HA.out.mono ?_; rintro e w3 ⟨rfl, rfl⟩)
    | (go_at_call 64; refine HP.out.mono ?_; rintro e w3 ⟨rfl, rfl⟩)
    | (go_at_call 67; refine HLF.out.mono ?_; rintro e w3 ⟨rfl, rfl⟩))
  go_ret
  exact ⟨rfl, RdTo.same H.out HB0.out⟩
end
set_option maxRecDepth 100000 in
set_option maxHeartbeats 8000000 in
theorem rappend_go (g : Nat) (vF : Value) (D : Dk) (L : List Rf) (M : Nat) (N : Int) (s : ByteArray) (v : Value) (l : List UInt8) (w : World) (h : RDk w g vF D L) (hi : DkI D M N) (hM : M ≤ 100000) (hN : N + l.length < 4611686018427387904) (hs : s.size ≤ maxLen) (hrd : Rd w v l) (hap : l ≠ [] → ∀ y, fpR g vF L y → v.ownBlock ≠ some y) (ha : D.ask [s] = 0) (p : Rf) (hp : kfnd Rf.key L s.data.toList = some p) (hl : ¬ D.left < (l.length : Int)) : Calls Try.prog 47 #[ptr g, .string s, v] w fun e w' => e = .returned (.int .i64 (Dk.more (l.length + 1) D p.f l).1) ∧ RdTo w w' g vF L (Dk.more (l.length + 1) D p.f l).2 := by
  obtain ⟨ix, hix, hz0, hz1, hz2⟩ := info_parts Try.uinfo
  obtain ⟨qv, cv, rfl, hcv, hmv, -⟩ := hrd.parts
  have hml : maxLen ≤ 9223372036854775807 := by decide
  have hb0 := below_alloc w (.cells #[.string s] 9)
  have HB0 := Lib.hid hb0
  have h0 := h.kept hb0
  have hr := hi.rise
  have HA := Lib.hid (rask0 [s] _ h0 (row1r w s 9) (by simpa using hs) ha)
  have HP := Lib.hid (place_yes h0 hr hp)
  have HLF := Lib.hid (rleft_any g vF D L _ h0 M N hi)
  have i1 : decide (D.left < (l.length : Int)) = false := by simpa using hl
  obtain ⟨k, hkk⟩ : ∃ k, k = kpl Rf.key L s.data.toList := ⟨_, rfl⟩
  simp only [← hkk] at HP
  obtain ⟨X, hX⟩ : ∃ X, X = Dk.more (l.length + 1) D p.f l := ⟨_, rfl⟩
  rw [← hX]
  have lr : (l.length : Int) ≤ 1073741824 := by
    have h1 := hi.room
    have h2 : 0 ≤ Dk.bytes D.F := ksum_nonneg (fun e he => lenF_nn D.F e he)
    unfold Dk.left at hl
    omega
  have HN := Lib.hid hN
  have HRA : Hid (RaR g vF M N L X s.data.toList k (.slice qv l.length cv) l w (w.alloc (.cells #[.string s] 9)) (l.length + 1) 0 D L p) := Lib.hid ⟨h0, hi.mono (Nat.le_refl _) (by simp), by simp; unfold Dk.left at hl; omega, hp, hkk.symm, by simp, by simpa using hX.symm, RSt.of_below hb0, hrd.below hb0, hap, by omega⟩
  clear h h0 hi hs hr ha hp hb0 hrd hl hkk hX hap hM hN
  go_enter Try.func47, Try.ntmps47
  go_wp2_with (first
    | (go_at_call 63; refine HA.out.mono ?_; rintro e w3 ⟨rfl, rfl⟩)
    | (go_at_call 64; refine HP.out.mono ?_; rintro e w3 ⟨rfl, rfl⟩)
    | (go_at_call 67; refine HLF.out.mono ?_; rintro e w3 ⟨rfl, rfl⟩))
  go_loopw [10] (fun i wr => ∃ (n at_ : Nat) (D' : Dk) (L' : List Rf) (r : Rf), i = .int .i64 (at_ : Int) ∧ Hid (RaR g vF M N L X s.data.toList k (.slice qv l.length cv) l w wr n at_ D' L' r)) (fun i _ => l.length + 64 - (intOf i).toNat)
  case atStart => exact ⟨_, 0, _, _, _, rfl, HRA⟩
  case round =>
    obtain ⟨n, at_, D', L', r, rfl, HR⟩ := hrel
    have hat := HR.out.atl
    by_cases hlt : at_ < l.length
    · have i2 : (at_ : Int) < (l.length : Int) := by omega
      obtain ⟨n, rfl⟩ : ∃ n', n = n' + 1 := ⟨n - 1, by have := HR.out.fuel; omega⟩
      have HLT := Lib.hid hlt
      have HNB : Hid (N + (l.length : Int) - ((l.drop at_).length : Int) < 4611686018427387904) := Lib.hid (by have := HN.out; omega)
      rcases rcases_may D' with hm | hm
      · have HMY := Lib.hid hm
        have HST := Lib.hid (rstep_yes g vF D' L' M _ _ HR.out.rd HR.out.inv HNB.out hm)
        clear hm
        go_upto_region 14 with (go_at_call 65; refine HST.out.mono ?_; rintro e w5 ⟨rfl, h5, s5⟩; have H5 := Lib.hid h5; have S5 := Lib.hid s5; clear h5 s5)
        obtain ⟨q, c, pv, pc, hv, hrv, hk⟩ := HR.out.row
        have HKL := Lib.hid hk
        have HV := Lib.hid hv
        have HRV := Lib.hid hrv
        have HBL : Hid (r.f.b.length ≤ 1073741824) := Lib.hid (by
          have h1 : r.f ∈ D'.F := by rw [← HR.out.rd.eq]; exact List.mem_map_of_mem (kfnd_mem HR.out.find).1
          have h2 : (r.f.b.length : Int) ≤ D'.room := HR.out.inv.one_le h1
          have := HR.out.inv.room
          omega)
        obtain ⟨e, he⟩ : ∃ e, e = min (at_ + 64) l.length := ⟨_, rfl⟩
        have e1 : at_ ≤ e := by omega
        have e2 : e ≤ l.length := by omega
        have HE := Lib.hid he
        have hmn : min ((at_ : Int) + 64) (l.length : Int) = (e : Int) := by omega
        have HHSS : Hid (∀ w', Below w5.heap.size w5 w' → w'.cell? ⟨g, 1, none⟩ = some (.slice (some ⟨q, 0, none⟩) L'.length c) ∧ w'.cell? ⟨q, k * 3 + 1, none⟩ = some (.slice pv r.f.b.length pc)) := Lib.hid (fun w' hb => by
          have h1 := H5.out.kept hb
          have := HR.out.cells (w6 := w') hv hrv h1
          exact ⟨this.1, this.2.1⟩)
        have HSB : Hid (∀ w', Below w5.heap.size w5 w' → Src Try.prog 1 29 (.slice pv r.f.b.length pc) r.f.b.length (r.f.b.map B) w') := Lib.hid (fun w' hb => by
          have := Row.src Try.underlying29 (Fresh.rd (own_keep (H5.out.body r (kfnd_mem HR.out.find).1) hb))
          rw [hrv] at this
          exact this)
        have HSL : Hid (∀ w', Below w5.heap.size w5 w' → Rd w' (.slice qv l.length cv) l) := Lib.hid (fun w' hb => (rd_frp HR.out.src S5.out.fr (fun y hy hq => HR.out.ap (fun e => by have := HLT.out; rw [e] at this; simp at this) y hq hy)).below hb)
        have b0 : (0 : Int) ≤ (k : Int) := by omega
        have b1 : (k : Int) < (L'.length : Int) := by omega
        have b2 : (0 : Int) ≤ (at_ : Int) := by omega
        have b3 : (at_ : Int) ≤ (e : Int) := by omega
        have b4 : (e : Int) ≤ (l.length : Int) := by omega
        have b5 : (e : Int) ≤ (cv : Int) := by omega
        have u1 : IntKind.i64.wrap ((at_ : Int) + 64) = (at_ : Int) + 64 := i64_in (by omega)
        clear hv hrv hk he hlt
        refine wp_region_noPanic ?_
        refine wp_region_lastH (fun w' => w'.cell? ⟨g, 1, none⟩ = some (.slice (some ⟨q, 0, none⟩) L'.length c) ∧ w'.cell? ⟨q, k * 3 + 1, none⟩ = some (.slice pv r.f.b.length pc)) 26 rfl rfl (by kernel_rfl) (by kernel_rfl) (HHSS.out _ (below_drewN 1)) (fun hHeld => ?_)
        have HB1 : Hid (Below w5.heap.size w5 w5.drew) := Lib.hid (below_drewN 1)
        have hS1 : True := trivial
        obtain ⟨wd1, hwd⟩ : ∃ xq, xq = w5.drew := ⟨_, rfl⟩
        rw [← hwd] at hHeld HB1 ⊢
        clear hwd
        refine wpAnyH_take (i := 0) (v := ?v1) rfl (by kernel_rfl) (by kernel_rfl) (by kernel_rfl) (fun _ _ _ h => h) (Or.inl ⟨by rfl, ?hy1⟩) (by assumption) ?rest1
        case hy1 => (intro _ hSw; (try dsimp only at hSw); go_simp; (try with_reducible rfl))
        (try simp only [Act.put]); (try simp only [List.setIfInBounds_toArray]); (try simp only [List.set_cons_succ]); (try simp only [List.set_cons_zero])
        refine wpAnyH_take (i := 1) (v := ?v2) rfl (by kernel_rfl) (by kernel_rfl) (by kernel_rfl) (fun _ _ _ h => h) (Or.inl ⟨by rfl, ?hy2⟩) (by assumption) ?rest2
        case hy2 => (intro _ hSw; (try dsimp only at hSw); go_simp; (try with_reducible rfl))
        (try simp only [Act.put]); (try simp only [List.setIfInBounds_toArray]); (try simp only [List.set_cons_succ]); (try simp only [List.set_cons_zero])
        refine wpAnyH_take (i := 2) (v := ?v3) rfl (by kernel_rfl) (by kernel_rfl) (by kernel_rfl) (fun _ _ _ h => h) (Or.inl ⟨by rfl, ?hy3⟩) (by assumption) ?rest3
        case hy3 => (intro _ hSw; (try dsimp only at hSw); go_simp; (try with_reducible rfl))
        (try simp only [Act.put]); (try simp only [List.setIfInBounds_toArray]); (try simp only [List.set_cons_succ]); (try simp only [List.set_cons_zero])
        refine wpAnyH_take (i := 3) (v := ?v4) rfl (by kernel_rfl) (by kernel_rfl) (by kernel_rfl) (fun _ _ _ h => h) (Or.inl ⟨by rfl, ?hy4⟩) (by assumption) ?rest4
        case hy4 => (intro _ hSw; (try dsimp only at hSw); go_simp; (try with_reducible rfl))
        (try simp only [Act.put]); (try simp only [List.setIfInBounds_toArray]); (try simp only [List.set_cons_succ]); (try simp only [List.set_cons_zero])
        refine wpAnyH_take (i := 4) (v := ?v5) rfl (by kernel_rfl) (by kernel_rfl) (by kernel_rfl) (fun _ _ _ h => h) (Or.inl ⟨by rfl, ?hy5⟩) (by assumption) ?rest5
        case hy5 => (intro _ hSw; (try dsimp only at hSw); go_simp; (try with_reducible rfl))
        (try simp only [Act.put]); (try simp only [List.setIfInBounds_toArray]); (try simp only [List.set_cons_succ]); (try simp only [List.set_cons_zero])
        refine wpAnyH_take (i := 6) (v := ?v6) rfl (by kernel_rfl) (by kernel_rfl) (by kernel_rfl) (fun _ _ _ h => h) (Or.inl ⟨by rfl, ?hy6⟩) (by assumption) ?rest6
        case hy6 => (intro _ hSw; (try dsimp only at hSw); go_simp; (try with_reducible rfl))
        (try simp only [Act.put]); (try simp only [List.setIfInBounds_toArray]); (try simp only [List.set_cons_succ]); (try simp only [List.set_cons_zero])
        refine wpAnyH_take (i := 7) (v := ?v7) rfl (by kernel_rfl) (by kernel_rfl) (by kernel_rfl) (fun _ _ _ h => h) (Or.inl ⟨by rfl, ?hy7⟩) (by assumption) ?rest7
        case hy7 => (intro _ hSw; (try dsimp only at hSw); go_simp; (try with_reducible rfl))
        (try simp only [Act.put]); (try simp only [List.setIfInBounds_toArray]); (try simp only [List.set_cons_succ]); (try simp only [List.set_cons_zero])
        refine wpAnyH_take (i := 8) (v := ?v8) rfl (by kernel_rfl) (by kernel_rfl) (by kernel_rfl) (fun _ _ _ h => h) (Or.inl ⟨by rfl, ?hy8⟩) (by assumption) ?rest8
        case hy8 => (intro _ hSw; (try dsimp only at hSw); go_simp; (try with_reducible rfl))
        (try simp only [Act.put]); (try simp only [List.setIfInBounds_toArray]); (try simp only [List.set_cons_succ]); (try simp only [List.set_cons_zero])
        refine wpAnyH_take (i := 9) (v := ?v9) rfl (by kernel_rfl) (by kernel_rfl) (by kernel_rfl) (fun _ _ _ h => h) (Or.inl ⟨by rfl, ?hy9⟩) (by assumption) ?rest9
        case hy9 => (intro _ hSw; (try dsimp only at hSw); go_simp; (try with_reducible rfl))
        (try simp only [Act.put]); (try simp only [List.setIfInBounds_toArray]); (try simp only [List.set_cons_succ]); (try simp only [List.set_cons_zero])
        refine wpAnyH_take (i := 10) (v := ?v10) rfl (by kernel_rfl) (by kernel_rfl) (by kernel_rfl) (fun _ _ _ h => h) (Or.inl ⟨by rfl, ?hy10⟩) (by assumption) ?rest10
        case hy10 => (intro _ hSw; (try dsimp only at hSw); go_simp; (try with_reducible rfl))
        (try simp only [Act.put]); (try simp only [List.setIfInBounds_toArray]); (try simp only [List.set_cons_succ]); (try simp only [List.set_cons_zero])
        refine wpAnyH_take (i := 11) (v := ?v11) rfl (by kernel_rfl) (by kernel_rfl) (by kernel_rfl) (fun _ _ _ h => h) (Or.inl ⟨by rfl, ?hy11⟩) (by assumption) ?rest11
        case hy11 => (intro _ hSw; (try dsimp only at hSw); go_simp; (try with_reducible rfl))
        (try simp only [Act.put]); (try simp only [List.setIfInBounds_toArray]); (try simp only [List.set_cons_succ]); (try simp only [List.set_cons_zero])
        refine wpAnyH_take (i := 12) (v := ?v12) rfl (by kernel_rfl) (by kernel_rfl) (by kernel_rfl) (fun _ _ _ h => h) (Or.inl ⟨by rfl, ?hy12⟩) (by assumption) ?rest12
        case hy12 => (intro _ hSw; (try dsimp only at hSw); go_simp; (try with_reducible rfl))
        (try simp only [Act.put]); (try simp only [List.setIfInBounds_toArray]); (try simp only [List.set_cons_succ]); (try simp only [List.set_cons_zero])
        refine wpAnyH_take (i := 13) (v := ?v13) rfl (by kernel_rfl) (by kernel_rfl) (by kernel_rfl) (fun _ _ _ h => h) (Or.inl ⟨by rfl, ?hy13⟩) (by assumption) ?rest13
        case hy13 => (intro _ hSw; (try dsimp only at hSw); go_simp; (try with_reducible rfl))
        (try simp only [Act.put]); (try simp only [List.setIfInBounds_toArray]); (try simp only [List.set_cons_succ]); (try simp only [List.set_cons_zero])
        refine wpAnyH_take (i := 15) (v := ?v14) rfl (by kernel_rfl) (by kernel_rfl) (by kernel_rfl) (fun _ _ _ h => h) (Or.inl ⟨by rfl, ?hy14⟩) (by assumption) ?rest14
        case hy14 => (intro _ hSw; (try dsimp only at hSw); go_simp; (try with_reducible rfl))
        (try simp only [Act.put]); (try simp only [List.setIfInBounds_toArray]); (try simp only [List.set_cons_succ]); (try simp only [List.set_cons_zero])
        refine wpAnyH_take (i := 16) (v := ?v15) rfl (by kernel_rfl) (by kernel_rfl) (by kernel_rfl) (fun _ _ _ h => h) (Or.inl ⟨by rfl, ?hy15⟩) (by assumption) ?rest15
        case hy15 => (intro _ hSw; (try dsimp only at hSw); go_simp; (try with_reducible rfl))
        (try simp only [Act.put]); (try simp only [List.setIfInBounds_toArray]); (try simp only [List.set_cons_succ]); (try simp only [List.set_cons_zero])
        refine wpAnyH_take (i := 17) (v := ?v16) rfl (by kernel_rfl) (by kernel_rfl) (by kernel_rfl) (fun _ _ _ h => h) (Or.inl ⟨by rfl, ?hy16⟩) (by assumption) ?rest16
        case hy16 => (intro _ hSw; (try dsimp only at hSw); go_simp; (try with_reducible rfl))
        (try simp only [Act.put]); (try simp only [List.setIfInBounds_toArray]); (try simp only [List.set_cons_succ]); (try simp only [List.set_cons_zero])
        refine wpAnyH_take (i := 18) (v := ?v17) rfl (by kernel_rfl) (by kernel_rfl) (by kernel_rfl) (fun _ _ _ h => h) (Or.inl ⟨by rfl, ?hy17⟩) (by assumption) ?rest17
        case hy17 => (intro _ hSw; (try dsimp only at hSw); go_simp; (try with_reducible rfl))
        (try simp only [Act.put]); (try simp only [List.setIfInBounds_toArray]); (try simp only [List.set_cons_succ]); (try simp only [List.set_cons_zero])
        refine wpAnyH_take (i := 19) (v := ?v18) rfl (by kernel_rfl) (by kernel_rfl) (by kernel_rfl) (fun _ _ _ h => h) (Or.inl ⟨by rfl, ?hy18⟩) (by assumption) ?rest18
        case hy18 => (intro _ hSw; (try dsimp only at hSw); go_simp; (try with_reducible rfl))
        (try simp only [Act.put]); (try simp only [List.setIfInBounds_toArray]); (try simp only [List.set_cons_succ]); (try simp only [List.set_cons_zero])
        refine wpAnyH_take (i := 20) (v := ?v19) rfl (by kernel_rfl) (by kernel_rfl) (by kernel_rfl) (fun _ _ _ h => h) (Or.inl ⟨by rfl, ?hy19⟩) (by assumption) ?rest19
        case hy19 => (intro _ hSw; (try dsimp only at hSw); go_simp; (try with_reducible rfl))
        (try simp only [Act.put]); (try simp only [List.setIfInBounds_toArray]); (try simp only [List.set_cons_succ]); (try simp only [List.set_cons_zero])
        refine wpAnyH_take (i := 21) (v := ?v20) rfl (by kernel_rfl) (by kernel_rfl) (by kernel_rfl) (fun _ _ _ h => h) (Or.inl ⟨by rfl, ?hy20⟩) (by assumption) ?rest20
        case hy20 => (intro _ hSw; (try dsimp only at hSw); go_simp; (try with_reducible rfl))
        (try simp only [Act.put]); (try simp only [List.setIfInBounds_toArray]); (try simp only [List.set_cons_succ]); (try simp only [List.set_cons_zero])
        refine wpAnyH_take (i := 22) (v := ?v21) rfl (by kernel_rfl) (by kernel_rfl) (by kernel_rfl) (fun _ _ _ h => h) (Or.inl ⟨by rfl, ?hy21⟩) (by assumption) ?rest21
        case hy21 => (intro _ hSw; (try dsimp only at hSw); go_simp; (try with_reducible rfl))
        (try simp only [Act.put]); (try simp only [List.setIfInBounds_toArray]); (try simp only [List.set_cons_succ]); (try simp only [List.set_cons_zero])
        (try simp only [List.getElem_toArray]); (try simp only [List.getElem_cons_succ]); (try simp only [List.getElem_cons_zero]); (try simp only [List.setIfInBounds_toArray]); (try simp only [List.set_cons_succ, List.set_cons_zero])
        refine wpAnyH_ready (rs := [5]) (by kernel_rfl) (by simp) ?_
        refine (AllReadyH.cons rfl (fun K hK => ?_) AllReadyH.nil)
        (try simp only [List.getElem_toArray]); (try simp only [List.getElem_cons_succ]); (try simp only [List.getElem_cons_zero])
        go_simp
        obtain ⟨w2x, hw2⟩ : ∃ xq, xq = wd1.alloc (.cells #[] 5) := ⟨_, rfl⟩
        obtain ⟨z2, hz2⟩ : ∃ xq, xq = wd1.heap.size := ⟨_, rfl⟩
        have hn2 : Below wd1.heap.size wd1 w2x := by rw [hw2]; exact below_alloc _ _
        have hb2 : Below w5.heap.size w5 w2x := below_and HB1.out hn2
        have HB2 := Lib.hid hb2
        have HO2 : Hid (w2x.ownsRow w5.heap.size 5 1 (.slice (some ⟨z2, 0, none⟩) 0 0) 0 []) := Lib.hid (by rw [hw2, hz2]; exact World.ownsRow_made wd1 #[] 0 HB1.out.size (by decide) rfl)
        rw [← hw2, ← hz2]
        refine hK.out _ _ (HHSS.out _ hb2) (fun hS2 => ?_)
        clear hK K hb2 hw2 hz2 hn2 hS1
        (try simp only [Act.put]); (try simp only [List.setIfInBounds_toArray]); (try simp only [List.set_cons_succ]); (try simp only [List.set_cons_zero])
        refine wpAnyH_ready (rs := [14]) (by kernel_rfl) (by simp) ?_
        refine (AllReadyH.cons rfl (fun K hK => ?_) AllReadyH.nil)
        refine step_app rfl (.tmp 45) (.tmp 53) 29 29 rfl w5.heap.size 5 ix (.int .u8 0) 1 1 Try.underlying29 hix hz0 hz1 hz2 rfl (.slice (some ⟨z2, 0, none⟩) 0 0) 0 [] (by rfl) HO2.out (.slice pv r.f.b.length pc) r.f.b.length (r.f.b.map B) (by rfl) (HSB.out _ HB2.out) (by have := HBL.out; have := HE.out; unfold maxLen; omega) (by have := HBL.out; have := HE.out; omega) HB2.out.size ?_
        intro v3 w3x ho3 hg3 hn3 hk3
        have HO3 : Hid (w3x.ownsRow w5.heap.size 5 1 v3 r.f.b.length (r.f.b.map B)) := Lib.hid (by simpa using ho3)
        have hb3 : Below w5.heap.size w5 w3x := HB2.out.trans ((Fr.of_grown hg3).below (by intro y hy; exact own_lo HO2.out (Option.mem_toList.1 hy)) HB2.out.size)
        have HB3 := Lib.hid hb3
        refine hK.out _ _ (HHSS.out _ hb3) (fun hS3 => ?_)
        clear hK K hb3 ho3 hg3 hn3 hk3 hS2
        (try simp only [Act.put]); (try simp only [List.setIfInBounds_toArray]); (try simp only [List.set_cons_succ]); (try simp only [List.set_cons_zero])
        refine wpAnyH_ready (rs := [23]) (by kernel_rfl) (by simp) ?_
        refine (AllReadyH.cons rfl (fun K hK => ?_) AllReadyH.nil)
        refine step_app rfl (.tmp 54) (.tmp 62) 29 29 rfl w5.heap.size 5 ix (.int .u8 0) 1 1 Try.underlying29 hix hz0 hz1 hz2 rfl v3 r.f.b.length (r.f.b.map B) (by rfl) HO3.out (.slice (if cv = at_ then qv else Option.map (fun x => x.add at_) qv) (e - at_) (cv - at_)) (e - at_) ((l.map B).drop at_ |>.take (e - at_)) (by rfl) (sub_src (HSL.out _ HB3.out) e1 e2) (by have := HBL.out; have := HE.out; unfold maxLen; omega) (by have := HBL.out; have := HE.out; omega) HB3.out.size ?_
        intro v4 w4x ho4 hg4 hn4 hk4
        have HO4 : Hid (w4x.ownsRow w5.heap.size 5 1 v4 (r.f.b.length + (e - at_)) (r.f.b.map B ++ ((l.map B).drop at_ |>.take (e - at_)))) := Lib.hid (by exact ho4)
        have hb4 : Below w5.heap.size w5 w4x := HB3.out.trans ((Fr.of_grown hg4).below (by intro y hy; exact own_lo HO3.out (Option.mem_toList.1 hy)) HB3.out.size)
        have HB4 := Lib.hid hb4
        refine hK.out _ _ (HHSS.out _ hb4) (fun hS4 => ?_)
        clear hK K hb4 ho4 hg4 hn4 hk4 hS3
        (try simp only [Act.put]); (try simp only [List.setIfInBounds_toArray]); (try simp only [List.set_cons_succ]); (try simp only [List.set_cons_zero])
        refine wpAnyH_take (i := 24) (v := ?v22) rfl (by kernel_rfl) (by kernel_rfl) (by kernel_rfl) (fun _ _ _ h => h) (Or.inl ⟨by rfl, ?hy22⟩) (by assumption) ?rest22
        case hy22 => (intro _ hSw; (try dsimp only at hSw); go_simp; (try with_reducible rfl))
        (try simp only [Act.put]); (try simp only [List.setIfInBounds_toArray]); (try simp only [List.set_cons_succ]); (try simp only [List.set_cons_zero])
        refine wpAnyH_take (i := 25) (v := ?v23) rfl (by kernel_rfl) (by kernel_rfl) (by kernel_rfl) (fun _ _ _ h => h) (Or.inl ⟨by rfl, ?hy23⟩) (by assumption) ?rest23
        case hy23 => (intro _ hSw; (try dsimp only at hSw); go_simp; (try with_reducible rfl))
        (try simp only [Act.put]); (try simp only [List.setIfInBounds_toArray]); (try simp only [List.set_cons_succ]); (try simp only [List.set_cons_zero])
        refine wpAnyH_done (by kernel_rfl) ?_ _
        refine LastQ.start rfl ?_
        clear hS4 hHeld
        have d1 := (HHSS.out _ HB4.out).2
        have f1 := (HR.out.cells HV.out HRV.out (H5.out.kept HB4.out)).2.2
        have HO8 := HO4
        have hlen : (r.f.b ++ (l.drop at_).take 64).length = r.f.b.length + (e - at_) := by have := HE.out; rw [List.length_append, List.length_take, List.length_drop]; omega
        have htake : List.take (e - at_) (List.drop at_ (l.map B)) = ((l.drop at_).take 64).map B := by
          rw [← List.map_drop, ← List.map_take]
          congr 1
          have h1 := HE.out
          rcases Nat.le_total (at_ + 64) l.length with h2 | h2
          · rw [show e - at_ = 64 by omega]
          · rw [List.take_of_length_le (by rw [List.length_drop]; omega), List.take_of_length_le (by rw [List.length_drop]; omega)]
        have ho8 := HO8.out
        rw [htake, ← List.map_append, ← hlen] at ho8
        have HNX := Lib.hid (HR.out.next HLT.out HMY.out HV.out H5.out S5.out HB4.out ho8)
        clear hlen htake ho8
        obtain ⟨p8, c8, hv8, -, -⟩ := own_slice HO8.out
        subst hv8
        generalize (if cv = at_ then qv else Option.map (fun x => x.add at_) qv) = pp
        go_wp2
        refine NoPanic.normal ?_
        (try go_wp2)
        exact ⟨⟨n, at_ + 64, _, _, _, by simp, HNX⟩, by simp [intOf]; omega⟩
      · have HMY := Lib.hid hm
        have HST := Lib.hid (rstep_no g vF D' L' _ HR.out.rd hm)
        have HEX : Hid (X = (10, D'.dead)) := Lib.hid (by rw [← HR.out.eq, more_no (fun e => absurd (List.drop_eq_nil_iff.1 e) (by omega)) hm])
        clear hm hlt
        go_wp2_with (go_at_call 65; refine HST.out.mono ?_; rintro e w5 ⟨rfl, h5, s5⟩; have H5 := Lib.hid h5; have S5 := Lib.hid s5; clear h5 s5)
        go_ret
        rw [HEX.out]
        exact ⟨rfl, vF, L', H5.out, HR.out.st.trans S5.out⟩
    · have HEX : Hid (X = (0, D')) := Lib.hid (by rw [← HR.out.eq, List.drop_of_length_le (by omega), more_nil])
      have i2 : ¬ (at_ : Int) < (l.length : Int) := by omega
      clear hlt
      go_wp2
      go_ret
      rw [HEX.out]
      exact ⟨rfl, vF, L', HR.out.rd, HR.out.st⟩
theorem rappend_any (g : Nat) (vF : Value) (D : Dk) (L : List Rf) (M : Nat) (N : Int) (s : ByteArray) (v : Value) (l : List UInt8) (w : World) (h : RDk w g vF D L) (hi : DkI D M N) (hM : M ≤ 100000) (hN : N + l.length < 4611686018427387904) (hs : s.size ≤ maxLen) (hrd : Rd w v l) (hap : l ≠ [] → ∀ y, fpR g vF L y → v.ownBlock ≠ some y) : Calls Try.prog 47 #[ptr g, .string s, v] w fun e w' => e = .returned (.int .i64 (D.append s l).1) ∧ RdTo w w' g vF L (D.append s l).2 := by
  by_cases ha : D.ask [s] = 0
  · cases hp : kfnd Rf.key L s.data.toList with
    | none => exact rappend_no g vF D L M N s v l w h hi hs (fun _ => h.get_none hp)
    | some p =>
      by_cases hl : D.left < (l.length : Int)
      · have e : D.append s l = (8, D) := by unfold Dk.append; rw [if_neg (by rw [ha]; simp), h.get_some hp]; simp only; rw [if_pos hl]
        rw [e]
        exact rappend_full g vF D L M N s v l w h hi hs hrd ha p hp hl
      · have e : D.append s l = Dk.more (l.length + 1) D p.f l := by unfold Dk.append; rw [if_neg (by rw [ha]; simp), h.get_some hp]; simp only; rw [if_neg hl]
        rw [e]
        exact rappend_go g vF D L M N s v l w h hi hM hN hs hrd hap ha p hp hl
  · exact rappend_no g vF D L M N s v l w h hi hs (fun h0 => absurd h0 ha)
end Go.Proofs.Ytgcemddobcjpnaa
namespace Go.Proofs.Ytgcemddobcjpnaa
open Go.RowKit

theorem row_frp {Q : Nat → Prop} {w w' : World} {v : Value} {size n : Nat} {cs : List Value} (h : Row w v size n cs) (hf : Frp Q w w') (hg : ∀ g, v.ownBlock = some g → ¬ Q g) : Row w' v size n cs := by
  obtain ⟨p, c, hv, h1, h2, h3, h4, h5, h6⟩ := h
  refine ⟨p, c, hv, h1, h2, h3, h4, h5, ?_⟩
  rcases h6 with h6 | ⟨b, o, hp, ha⟩
  · exact .inl h6
  · exact .inr ⟨b, o, hp, fun j u hj => cell_frp (ha j u hj) hf (hg b (by rw [hv, hp]; rfl))⟩

/-- the files, the first i of them cut -/
def cutF (keep : List Int) (F : List Fl) (i : Nat) : List Fl := F.mapIdx fun j f => if j < i then Dk.keepF keep j f else f
theorem cutF_zero (keep : List Int) (F : List Fl) : cutF keep F 0 = F := by
  unfold cutF
  apply List.ext_getElem (by simp)
  intro i h1 h2
  simp
theorem cutF_all (keep : List Int) (F : List Fl) : cutF keep F F.length = F.mapIdx (Dk.keepF keep) := by
  unfold cutF
  apply List.ext_getElem (by simp)
  intro i h1 h2
  simp only [List.getElem_mapIdx]
  rw [if_pos (by simpa using h1)]
theorem cutF_len (keep : List Int) (F : List Fl) (i : Nat) : (cutF keep F i).length = F.length := by simp [cutF]
theorem cutF_at (keep : List Int) (F : List Fl) (i j : Nat) (h : j < F.length) : (cutF keep F i)[j]'(by rw [cutF_len]; exact h) = if j < i then Dk.keepF keep j F[j] else F[j] := by simp [cutF]
theorem cutF_next (keep : List Int) (F : List Fl) (i : Nat) (h : i < F.length) : (cutF keep F i).set i (Dk.keepF keep i F[i]) = cutF keep F (i + 1) := by
  apply List.ext_getElem (by simp [cutF_len])
  intro j h1 h2
  have hj : j < F.length := by rw [cutF_len] at h2; exact h2
  rw [List.getElem_set, cutF_at keep F (i + 1) j hj]
  by_cases e : i = j
  · subst e
    rw [if_pos rfl, if_pos (by omega)]
  · rw [if_neg e, cutF_at keep F i j hj]
    by_cases hlt : j < i
    · rw [if_pos hlt, if_pos (by omega)]
    · rw [if_neg hlt, if_neg (by omega)]
theorem cutF_rise {keep : List Int} {F : List Fl} (h : KRise Fl.key F) (i : Nat) : KRise Fl.key (cutF keep F i) := by
  unfold KRise at *
  rw [List.pairwise_iff_getElem] at h ⊢
  intro a c ha hc hac
  have ha' : a < F.length := by rw [cutF_len] at ha; exact ha
  have hc' : c < F.length := by rw [cutF_len] at hc; exact hc
  have e : ∀ j (hj : j < F.length), ((cutF keep F i)[j]'(by rw [cutF_len]; exact hj)).key = F[j].key := fun j hj => by
    rw [cutF_at keep F i j hj]
    split <;> rfl
  rw [e a ha', e c hc']
  exact h a c ha' hc' hac
theorem kpl_self {F : List Fl} (h : KRise Fl.key F) {i : Nat} (hi : i < F.length) : kpl Fl.key F F[i].key = i :=
  kpl_eq (by omega) (fun j hj hji => List.pairwise_iff_getElem.1 h j i hj hi hji) (fun _ => lt_irr _)
/-- the next file is cut -/
theorem cutF_put {keep : List Int} {F : List Fl} (h : KRise Fl.key F) {i : Nat} (hi : i < F.length) : kput Fl.key (cutF keep F i) (Dk.keepF keep i F[i]) = cutF keep F (i + 1) := by
  have hl : i < (cutF keep F i).length := by rw [cutF_len]; exact hi
  have hr := cutF_rise (keep := keep) h i
  have he : (cutF keep F i)[i] = F[i] := by rw [cutF_at keep F i i hi, if_neg (Nat.lt_irrefl _)]
  have hf : kfnd Fl.key (cutF keep F i) F[i].key = some F[i] := by
    have := kfnd_of hr.apart (List.getElem_mem hl)
    rwa [he] at this
  rw [kput_same (s := F[i].key) (x := Dk.keepF keep i F[i]) hr hf rfl]
  have hk := kpl_self hr hl
  rw [he] at hk
  rw [hk]
  exact cutF_next keep F i hi

set_option maxRecDepth 100000 in
set_option maxHeartbeats 2000000 in
theorem crash_bad (b mb : Nat) (D : Dk) (L : List Pf) (keep : List Int) (v : Value) (w : World) (h : PDk w b mb D L) (hk : Row w v 1 keep.length (keep.map (Value.int .i64))) (hb : Dk.fine keep = false) :
    Calls Try.prog 13 #[ptr b, v] w fun e w' => e = .returned (.int .i64 2) ∧ w = w' := by
  have H := Lib.hid h
  obtain ⟨p, c, rfl, hc, hm, -, -, -, hat⟩ := hk
  have hml : maxLen ≤ 9223372036854775807 := by decide
  have hll : keep.length ≤ 9223372036854775807 := by omega
  have HAT : Hid (∀ k (hk : k < keep.length), ∃ q o, p = some ⟨q, o, none⟩ ∧ w.cell? ⟨q, o + k, none⟩ = some (.int .i64 keep[k])) := Lib.hid (fun k hk => by
    rcases hat with h0 | ⟨q, o, hp, ha⟩
    · have : keep = [] := by simpa using h0
      subst this; simp at hk
    · exact ⟨q, o, hp, ha k _ (by simp [hk])⟩)
  have HBAD : Hid (¬ ∀ k (hk : k < keep.length), 0 ≤ keep[k]) := Lib.hid (fun hh => by
    unfold Dk.fine at hb
    rw [← Bool.not_eq_true, List.all_eq_true] at hb
    refine hb fun x hx => ?_
    obtain ⟨k, hk, rfl⟩ := List.getElem_of_mem hx
    simpa using hh k hk)
  clear h hat hml hm hc hb
  go_enter Try.func13, Try.ntmps13
  go_wp2_with (go_at_call 40; refine (none_made b mb D L _ H.out).mono ?_; rintro e w' ⟨rfl, rfl⟩)
  go_loop [15] (fun i => ∃ k : Nat, k ≤ keep.length ∧ i = .int .i64 (k : Int) ∧ Hid (∀ j (hj : j < keep.length), j < k → 0 ≤ keep[j])) (fun i => keep.length - (intOf i).toNat)
  case atStart => exact ⟨0, Nat.zero_le _, rfl, Lib.hid (fun j _ hj => absurd hj (Nat.not_lt_zero _))⟩
  case round =>
    obtain ⟨k, hk, rfl, HG⟩ := hrel
    by_cases hlt : k < keep.length
    · obtain ⟨q, o, rfl, hc⟩ := HAT.out k hlt
      obtain ⟨x, hx⟩ : ∃ x, x = keep[k] := ⟨_, rfl⟩
      rw [← hx] at hc
      have i1 : (k : Int) < (keep.length : Int) := by omega
      have HX := Lib.hid hx
      clear hx
      by_cases h0 : x < 0
      · have d0 : decide (x < 0) = true := by simp; omega
        go_wp2
        go_ret
        exact ⟨rfl, rfl⟩
      · have d0 : decide (x < 0) = false := by simp; omega
        have HG2 : Hid (∀ j (hj : j < keep.length), j < k + 1 → 0 ≤ keep[j]) := Lib.hid (fun j hj hjk => by
          by_cases hjk2 : j < k
          · exact HG.out j hj hjk2
          · obtain rfl : j = k := by omega
            rw [← HX.out]; omega)
        go_wp2
        go_round
        case rel => exact ⟨k + 1, hlt, by go_num, HG2⟩
        case measure => simp [intOf]; omega
    · exact absurd (fun j hj => HG.out j hj (by omega)) HBAD.out

/-- between two rounds: the first i files are cut -/
structure CrR (b mb : Nat) (keep : List Int) (D : Dk) (L : List Pf) (w0 w : World) (i : Nat) (L' : List Pf) : Prop where
  pd : PDk w b mb (D.withF (cutF keep D.F i)) L'
  st : DSt w0 w b mb L L'
theorem keepN_some {keep : List Int} {i : Nat} (h : i < keep.length) (f : Fl) : Dk.keepN keep i f = min keep[i].toNat (f.b.length - f.s) := by
  unfold Dk.keepN
  rw [List.getElem?_eq_getElem h]
theorem keepN_none {keep : List Int} {i : Nat} (h : ¬ i < keep.length) (f : Fl) : Dk.keepN keep i f = 0 := by
  unfold Dk.keepN
  rw [List.getElem?_eq_none (by omega)]
/-- behind a file that is cut -/
theorem CrR.next2 {b mb : Nat} {keep : List Int} {D : Dk} {L : List Pf} {w0 w w8 : World} {i n : Nat} {L' : List Pf} (h : CrR b mb keep D L w0 w i L') (hr : KRise Fl.key D.F) (hs : ∀ f ∈ D.F, f.s ≤ f.b.length) (hi : i < D.F.length) {p : Pf} (hp : p ∈ L') (hpf : p.f = D.F[i]) {q : Option Addr} {c : Nat} (hv : p.v = .slice q p.f.b.length c) (hn : n = Dk.keepN keep i p.f)
    (hb8 : Below (w.setCell ⟨p.a, 1, none⟩ (.int .i64 ((p.f.s : Int) + (n : Int)))).heap.size (w.setCell ⟨p.a, 1, none⟩ (.int .i64 ((p.f.s : Int) + (n : Int)))) w8) :
    ∃ L2, CrR b mb keep D L w0 (w8.setCell ⟨p.a, 0, none⟩ (.slice q (p.f.s + n) c)) (i + 1) L2 := by
  subst hn
  have ecast : (p.f.s : Int) + (Dk.keepN keep i p.f : Int) = ((p.f.s + Dk.keepN keep i p.f : Nat) : Int) := by omega
  rw [ecast] at hb8
  have hr' : KRise Fl.key (D.withF (cutF keep D.F i)).F := cutF_rise hr i
  have hrL := h.pd.rise hr'
  have hkp : kfnd Pf.key L' p.key = some p := kfnd_of hrL.apart hp
  have hfr : Frp (fun k => k = p.a ∨ p.v.ownBlock = some k) w (w8.setCell ⟨p.a, 0, none⟩ (.slice q (p.f.s + Dk.keepN keep i p.f) c)) :=
    (((Frp.refl (fun k => k = p.a ∨ p.v.ownBlock = some k) w).set (p := ⟨p.a, 1, none⟩) (.inl rfl) _).next hb8).set (p := ⟨p.a, 0, none⟩) (.inl rfl) _
  have hle := keepN_le keep i p.f
  have hsl : p.f.s ≤ p.f.b.length := by rw [hpf]; exact hs _ (List.getElem_mem hi)
  have hfile : Blk (w8.setCell ⟨p.a, 0, none⟩ (.slice q (p.f.s + Dk.keepN keep i p.f) c)) p.a [.slice q (p.f.s + Dk.keepN keep i p.f) c, .int .i64 ((p.f.s + Dk.keepN keep i p.f : Nat) : Int)] 69 := (((h.pd.file p hp).set 1 _).kept hb8).set 0 _
  have hne : ∀ j, (Value.slice q (p.f.s + Dk.keepN keep i p.f) c).ownBlock ≠ some (⟨p.a, j, none⟩ : Addr).block := fun j e => by
    refine (h.pd.ne_v hp).2.2 p hp ?_
    rw [hv]
    cases q <;> exact e
  have hbody : Fresh 0 (w8.setCell ⟨p.a, 0, none⟩ (.slice q (p.f.s + Dk.keepN keep i p.f) c)) (.slice q (p.f.s + Dk.keepN keep i p.f) c) (p.f.b.take (p.f.s + Dk.keepN keep i p.f)) := by
    have hb := h.pd.body p hp
    rw [hv] at hb
    have hcut : w.ownsRow 0 5 1 (.slice q (p.f.s + Dk.keepN keep i p.f) c) (p.f.s + Dk.keepN keep i p.f) ((p.f.b.map B).take (p.f.s + Dk.keepN keep i p.f)) := by
      rcases hb.2 with ⟨e, h0⟩ | ⟨g, cap, cur, e, -, -, -⟩
      · simp only [Value.slice.injEq] at e
        obtain ⟨rfl, hn, rfl⟩ := e
        have h1 : p.f.s + Dk.keepN keep i p.f = 0 := by omega
        rw [h1]
        exact World.ownsRow_nil _ _ _ _
      · simp only [Value.slice.injEq] at e
        obtain ⟨rfl, -, rfl⟩ := e
        have := own_cut hb (m := p.f.s + Dk.keepN keep i p.f) (by omega)
        simpa using this
    unfold Fresh
    rw [List.length_take, Nat.min_eq_left (by omega), List.map_take]
    exact own_other (own_keep (own_other hcut (hne 1) _) hb8) (hne 0) _
  have hpd := h.pd.turn (D' := D.withF (cutF keep D.F (i + 1))) (p := p) (x := ⟨Dk.keepF keep i p.f, p.a, .slice q (p.f.s + Dk.keepN keep i p.f) c⟩) hr' hkp rfl (by
    show cutF keep D.F (i + 1) = kput Fl.key (cutF keep D.F i) (Dk.keepF keep i p.f)
    rw [hpf, cutF_put hr hi]) rfl hfr hfile hbody (fun k hk => .inl (by rw [hv]; cases q <;> exact hk))
  refine ⟨_, hpd, h.st.trans ⟨hfr.mono (fun k hk => .inr (.inr ⟨p, hp, hk⟩)), fun k hk => ?_⟩⟩
  rcases fp_put hk with h1 | h1 | h1
  · exact .inl h1
  · exact .inl (.inr (.inr ⟨p, hp, .inl h1⟩))
  · exact .inl (.inr (.inr ⟨p, hp, .inr (by rw [hv]; cases q <;> exact h1)⟩))
theorem CrR.next0 {b mb : Nat} {keep : List Int} {D : Dk} {L : List Pf} {w0 w w8 : World} {i : Nat} {L' : List Pf} (h : CrR b mb keep D L w0 w i L') (hr : KRise Fl.key D.F) (hs : ∀ f ∈ D.F, f.s ≤ f.b.length) (hi : i < D.F.length) {p : Pf} (hp : p ∈ L') (hpf : p.f = D.F[i]) {q : Option Addr} {c : Nat} (hv : p.v = .slice q p.f.b.length c) (hn : 0 = Dk.keepN keep i p.f)
    (hb8 : Below (w.setCell ⟨p.a, 1, none⟩ (.int .i64 (p.f.s : Int))).heap.size (w.setCell ⟨p.a, 1, none⟩ (.int .i64 (p.f.s : Int))) w8) :
    ∃ L2, CrR b mb keep D L w0 (w8.setCell ⟨p.a, 0, none⟩ (.slice q p.f.s c)) (i + 1) L2 := by
  have := h.next2 (n := 0) (w8 := w8) hr hs hi hp hpf hv hn (by simpa using hb8)
  simpa using this

section
variable (b mb : Nat) (D : Dk) (L : List Pf) (M : Nat) (N : Int) (keep : List Int) (v : Value) (w : World) (h : PDk w b mb D L) (hi : DkI D M N) (hM : M ≤ 100000) (hk : Row w v 1 keep.length (keep.map (Value.int .i64))) (hap : keep ≠ [] → ∀ g, fpP b mb L g → v.ownBlock ≠ some g)
include h hi hM hk hap
set_option maxRecDepth 100000 in
set_option maxHeartbeats 4000000 in
theorem crash_ok (hb : Dk.fine keep = true) (hwf : ∀ x ∈ keep, x ≤ 9223372036854775807) : Calls Try.prog 13 #[ptr b, v] w fun e w' => e = .returned (.int .i64 0) ∧ DkTo w w' b mb L (D.crash keep).2 := by
  have HF : Hid ((D.crash keep).2 = { (D.withF (D.F.mapIdx (Dk.keepF keep))).free with off := false }) := Lib.hid (by unfold Dk.crash; rw [if_pos hb])
  have H := Lib.hid h
  have HI := Lib.hid hi
  have HLEN : Hid (D.F.length ≤ 100000) := Lib.hid (Nat.le_trans hi.len hM)
  have HKR := Lib.hid hk
  have HAP := Lib.hid hap
  have c0 := h.blk.cell (j := 0) rfl
  have HKE := Lib.hid (callsIn_wide.1 (Try.maps_Keys_42 (some mb) w))
  have HSO := Lib.hid (names_sorted b mb D L w h hi.rise (Nat.le_trans hi.len hM))
  have HPOS : Hid (∀ k (hk : k < keep.length), 0 ≤ keep[k] ∧ keep[k] ≤ 9223372036854775807) := Lib.hid (fun k hk => ⟨by
    unfold Dk.fine at hb
    have := List.all_eq_true.1 hb keep[k] (List.getElem_mem hk)
    simpa using this, hwf _ (List.getElem_mem hk)⟩)
  obtain ⟨p, c, rfl, hc, hm, -, -, -, hat⟩ := hk
  have hml : maxLen ≤ 9223372036854775807 := by decide
  have hll : keep.length ≤ 9223372036854775807 := by omega
  have hbd : ∀ k (hk : k < keep.length), ∃ q o, p = some ⟨q, o, none⟩ ∧ w.cell? ⟨q, o + k, none⟩ = some (.int .i64 keep[k]) := (fun k hk => by
    rcases hat with h0 | ⟨q, o, hp, ha⟩
    · have : keep = [] := by simpa using h0
      subst this; simp at hk
    · exact ⟨q, o, hp, ha k _ (by simp [hk])⟩)
  have HAT := Lib.hid hbd
  clear h hat hml hm hc hb hi hM hap hwf hbd
  go_enter Try.func13, Try.ntmps13
  go_wp2_with (go_at_call 40; refine (none_made b mb D L _ H.out).mono ?_; rintro e w' ⟨rfl, rfl⟩)
  go_loop [15] (fun i => ∃ k : Nat, k ≤ keep.length ∧ i = .int .i64 (k : Int)) (fun i => keep.length - (intOf i).toNat)
  case atStart => exact ⟨0, Nat.zero_le _, rfl⟩
  case round =>
    obtain ⟨k, hk, rfl⟩ := hrel
    by_cases hlt : k < keep.length
    · obtain ⟨q, o, rfl, hc⟩ := HAT.out k hlt
      have hx0 := HPOS.out k hlt
      obtain ⟨x, hx⟩ : ∃ x, x = keep[k] := ⟨_, rfl⟩
      rw [← hx] at hc hx0
      have i1 : (k : Int) < (keep.length : Int) := by omega
      have d0 : decide (x < 0) = false := by simp; omega
      clear hx hx0
      go_wp2
      go_round
      case rel => exact ⟨k + 1, hlt, by go_num⟩
      case measure => simp [intOf]; omega
    · obtain rfl : k = keep.length := by omega
      clear hlt hk
      go_wp2_with (first
        | (go_at_call 42; refine HKE.out.mono ?_; rintro e w' ⟨rfl, rfl⟩)
        | (go_at_call 41; refine HSO.out.mono ?_; rintro e w3 ⟨v3, rfl, ho3, hb3⟩; obtain ⟨p3, k3, rfl, hk3, hm3⟩ := own_slice ho3; have HO3 := Lib.hid ho3; have HB3 : Hid (Below w.heap.size w w3) := Lib.hid ((below_alloc w _).trans (hb3.mono (by omega))); clear ho3 hb3 hm3))
      have HCR0 : Hid (CrR b mb keep D L w3 w3 0 L) := Lib.hid ⟨by rw [cutF_zero]; exact H.out.kept HB3.out, DSt.of_below (Below.refl _ _)⟩
      have HLT : Hid (∀ g, fpP b mb L g → g < w.heap.size) := Lib.hid (fun g hg => H.out.lt hg)
      have hll3 : D.F.length ≤ 9223372036854775807 := by have := HLEN.out; omega
      clear c0
      go_loopw [29] (fun i wr => ∃ (k : Nat) (L' : List Pf), k ≤ D.F.length ∧ i = .int .i64 (k : Int) ∧ Hid (CrR b mb keep D L w3 wr k L')) (fun i _ => D.F.length - (intOf i).toNat)
      case atStart => exact ⟨0, L, Nat.zero_le _, rfl, HCR0⟩
      case round =>
        obtain ⟨k, L', hk, rfl, HC⟩ := hrel
        by_cases hlt : k < D.F.length
        · have hCR := HC.out
          have hlL : k < L'.length := by rw [hCR.pd.len]; show k < (cutF keep D.F k).length; rw [cutF_len]; exact hlt
          obtain ⟨p', hp'⟩ : ∃ p', p' = L'[k] := ⟨_, rfl⟩
          have hpf : p'.f = D.F[k] := by
            have h1 : (L'.map Pf.f)[k]'(by simpa using hlL) = (cutF keep D.F k)[k]'(by rw [cutF_len]; exact hlt) := by
              have := hCR.pd.eq
              simp only [this]
              rfl
            rw [List.getElem_map, ← hp', cutF_at keep D.F k k hlt, if_neg (Nat.lt_irrefl _)] at h1
            exact h1
          have hmem : p' ∈ L' := by rw [hp']; exact List.getElem_mem hlL
          have hkf : kfnd Pf.key L' p'.f.n.data.toList = some p' := kfnd_of (hCR.pd.rise (cutF_rise HI.out.rise k)).apart hmem
          obtain ⟨n, hn⟩ : ∃ n, n = Dk.keepN keep k p'.f := ⟨_, rfl⟩
          have hnl := keepN_le keep k p'.f
          rw [← hn] at hnl
          have hsl : p'.f.s ≤ p'.f.b.length := by rw [hpf]; exact HI.out.syn _ (List.getElem_mem hlt)
          have hbl : p'.f.b.length ≤ 1073741824 := by
            have h1 : (p'.f.b.length : Int) ≤ D.room := by rw [hpf]; exact HI.out.one_le (List.getElem_mem hlt)
            have := HI.out.room
            omega
          have HG := Lib.hid (kget_some hkf)
          have HNS : Hid (p'.f.n.size ≤ maxLen) := Lib.hid (by have := HI.out.nam _ (List.getElem_mem hlt); rw [← hpf] at this; unfold maxLen; omega)
          obtain ⟨pv, pc, hv, hpc, -⟩ := own_slice (hCR.pd.body p' hmem)
          have hfile := hCR.pd.file p' hmem
          rw [hv] at hfile
          have HFI0 := Lib.hid hfile
          have d0 := hfile.cell (j := 0) rfl
          have d1 := hfile.cell (j := 1) rfl
          have e1 := hfile.free 1
          have c0 := hCR.pd.blk.cell (j := 0) rfl
          obtain ⟨g3, cap3, e3, -, -, -⟩ := own_block HO3.out (by omega)
          simp only [Value.slice.injEq] at e3
          obtain ⟨rfl, -, rfl⟩ := e3
          have nm : wr.cell? ⟨g3, k, none⟩ = some (.string p'.f.n) := cell_frp (own_cell HO3.out (j := k) (u := .string p'.f.n) (by rw [hpf]; simp [hlt])) hCR.st.fr (fun hq => by
            have h1 := HLT.out g3 hq
            have h2 := own_lo HO3.out (g := g3) rfl
            omega)
          have HMM := Lib.hid hmem
          have HPF := Lib.hid hpf
          have HVV := Lib.hid hv
          have HNN := Lib.hid hn
          have i1 : (k : Int) < (D.F.length : Int) := by omega
          have b0 : (0 : Int) ≤ (p'.f.s : Int) := by omega
          have b1 : (p'.f.s : Int) ≤ (p'.f.b.length : Int) := by omega
          have b2 : (p'.f.b.length : Int) ≤ 1073741824 := by omega
          have b3 : (n : Int) ≤ (p'.f.b.length : Int) - (p'.f.s : Int) := by omega
          have b4 : (0 : Int) ≤ (n : Int) := by omega
          have b5 : (p'.f.b.length : Int) ≤ (pc : Int) := by omega
          have u1 : IntKind.i64.wrap ((p'.f.b.length : Int) - (p'.f.s : Int)) = (p'.f.b.length : Int) - (p'.f.s : Int) := by rw [IntKind.wrap_i64]; omega
          clear hCR hlL hp' hpf hkf hn hnl hsl hbl hfile hv hmem
          by_cases hkk : k < keep.length
          · have i2 : (k : Int) < (keep.length : Int) := by omega
            obtain ⟨q, o, rfl, hc⟩ := HAT.out k hkk
            have kc : wr.cell? ⟨q, o + k, none⟩ = some (.int .i64 keep[k]) := cell_frp (cell_kept hc HB3.out) HC.out.st.fr (fun hq => HAP.out (fun e => by rw [e] at hkk; simp at hkk) q hq rfl)
            obtain ⟨x, hx⟩ : ∃ x, x = keep[k] := ⟨_, rfl⟩
            rw [← hx] at kc
            have hmn : min x ((p'.f.b.length : Int) - (p'.f.s : Int)) = (n : Int) := by
              have h1 := (HPOS.out k hkk).1
              have h2 := HNN.out
              rw [keepN_some hkk, ← hx] at h2
              rw [← hx] at h1
              omega
            clear hc hx
            go_upto_region 15 with (at_lookup; refine wpList_slook _ rfl _ _ _ rfl 9 66 Try.underlying9 Try.underlying52 (fzero _) mb (kM Pf.key Pf.val L') rfl HC.out.pd.map p'.f.n rfl HNS.out ?_; rw [HG.out.1]; simp only [Option.getD_some])
            have q5 := Past.cell kc
            have q6 := Past.cell d0
            have q7 := Past.cell d1
            refine wp_region_past (by kernel_rfl) (by kernel_rfl) ?_
            repeat (go_big_quiet_step (fail))
            refine wpQuiet_nil ?_
            intro _ hw'
            obtain ⟨s', hw''⟩ := hw'
            subst hw''
            obtain ⟨w5, h5, e5⟩ : ∃ w5, Below wr.heap.size wr w5 ∧ w5 = s'.val := ⟨_, s'.h, rfl⟩
            rw [← e5]
            have HB5 := Lib.hid h5
            clear h5 e5 q5 q6 q7
            have HFW : Hid (Blk w5 p'.a [.slice pv p'.f.b.length pc, .int .i64 (p'.f.s : Int)] 69) := Lib.hid (HFI0.out.kept HB5.out)
            have HCW : Hid (CrR b mb keep D L w3 w5 k L') := Lib.hid ⟨HC.out.pd.kept HB5.out, HC.out.st.trans (DSt.of_below HB5.out)⟩
            clear d0 d1 e1
            have d1 := HFW.out.cell (j := 1) rfl
            have e1 := HFW.out.free 1
            go_upto_region 17 with fail
            obtain ⟨w6, hw6⟩ : ∃ w6, w6 = w5.setCell ⟨p'.a, 1, none⟩ (.int .i64 ((p'.f.s : Int) + (n : Int))) := ⟨_, rfl⟩
            have HF6 : Hid (Blk w6 p'.a [.slice pv p'.f.b.length pc, .int .i64 ((p'.f.s : Int) + (n : Int))] 69) := Lib.hid (by rw [hw6]; exact HFW.out.set 1 _)
            have HN6 : Hid (∀ w8, Below w6.heap.size w6 w8 → ∃ L2, CrR b mb keep D L w3 (w8.setCell ⟨p'.a, 0, none⟩ (.slice pv (p'.f.s + n) pc)) (k + 1) L2) := Lib.hid (fun w8 hb => by
              rw [hw6] at hb
              exact HCW.out.next2 HI.out.rise HI.out.syn hlt HMM.out HPF.out HVV.out HNN.out hb)
            rw [← hw6]
            clear hw6 d1 e1
            have q0 := Past.blk HF6.out (j := 0) rfl
            have q1 := Past.blk HF6.out (j := 1) rfl
            refine wp_region_past_one rfl (by kernel_rfl) (by kernel_rfl) (by kernel_rfl) ?_
            repeat (go_big_quiet_step (fail))
            refine wpQuiet_nil ?_
            intro _ hw'
            obtain ⟨s2, hw''⟩ := hw'
            subst hw''
            obtain ⟨w8, h8, e8⟩ : ∃ w8, Below w6.heap.size w6 w8 ∧ w8 = s2.val := ⟨_, s2.h, rfl⟩
            rw [← e8]
            have HF8 := Lib.hid (HF6.out.kept h8)
            obtain ⟨L2, hL2⟩ := HN6.out w8 h8
            have HL2 := Lib.hid hL2
            clear h8 e8 q0 q1 hL2
            have d0 := HF8.out.cell (j := 0) rfl
            have e0 := HF8.out.free 0
            go_wp2
            go_roundw
            case rel => exact ⟨k + 1, L2, hlt, by go_num, HL2⟩
            case measure => simp [intOf]; omega
          · have i2 : ¬ (k : Int) < (keep.length : Int) := by omega
            have hn0 : n = 0 := by rw [HNN.out, keepN_none hkk]
            subst hn0
            go_upto_region 16 with (at_lookup; refine wpList_slook _ rfl _ _ _ rfl 9 66 Try.underlying9 Try.underlying52 (fzero _) mb (kM Pf.key Pf.val L') rfl HC.out.pd.map p'.f.n rfl HNS.out ?_; rw [HG.out.1]; simp only [Option.getD_some])
            have HFW : Hid (Blk wr p'.a [.slice pv p'.f.b.length pc, .int .i64 (p'.f.s : Int)] 69) := Lib.hid HFI0.out
            have HCW : Hid (CrR b mb keep D L w3 wr k L') := Lib.hid HC.out
            clear d0 d1 e1
            have d1 := HFW.out.cell (j := 1) rfl
            have e1 := HFW.out.free 1
            go_upto_region 17 with fail
            obtain ⟨w6, hw6⟩ : ∃ w6, w6 = wr.setCell ⟨p'.a, 1, none⟩ (.int .i64 (p'.f.s : Int)) := ⟨_, rfl⟩
            have HF6 : Hid (Blk w6 p'.a [.slice pv p'.f.b.length pc, .int .i64 (p'.f.s : Int)] 69) := Lib.hid (by rw [hw6]; exact HFW.out.set 1 _)
            have HN6 : Hid (∀ w8, Below w6.heap.size w6 w8 → ∃ L2, CrR b mb keep D L w3 (w8.setCell ⟨p'.a, 0, none⟩ (.slice pv p'.f.s pc)) (k + 1) L2) := Lib.hid (fun w8 hb => by
              rw [hw6] at hb
              exact HCW.out.next0 HI.out.rise HI.out.syn hlt HMM.out HPF.out HVV.out HNN.out hb)
            (try rw [← hw6])
            clear hw6 d1 e1
            have q0 := Past.blk HF6.out (j := 0) rfl
            have q1 := Past.blk HF6.out (j := 1) rfl
            refine wp_region_past_one rfl (by kernel_rfl) (by kernel_rfl) (by kernel_rfl) ?_
            repeat (go_big_quiet_step (fail))
            refine wpQuiet_nil ?_
            intro _ hw'
            obtain ⟨s2, hw''⟩ := hw'
            subst hw''
            obtain ⟨w8, h8, e8⟩ : ∃ w8, Below w6.heap.size w6 w8 ∧ w8 = s2.val := ⟨_, s2.h, rfl⟩
            rw [← e8]
            have HF8 := Lib.hid (HF6.out.kept h8)
            obtain ⟨L2, hL2⟩ := HN6.out w8 h8
            have HL2 := Lib.hid hL2
            clear h8 e8 q0 q1 hL2
            have d0 := HF8.out.cell (j := 0) rfl
            have e0 := HF8.out.free 0
            go_wp2
            go_roundw
            case rel => exact ⟨k + 1, L2, hlt, by go_num, HL2⟩
            case measure => simp [intOf]; omega
        · obtain rfl : k = D.F.length := by omega
          have hpd := HC.out.pd
          have c2 := (hpd.blk.set 4 (.bool false)).cell (j := 2) rfl
          have c4 := hpd.blk.cell (j := 4) rfl
          have f4 := hpd.blk.free 4
          have f2 := (hpd.blk.set 4 (.bool false)).free 2
          have c3 := ((hpd.blk.set 4 (.bool false)).set 2 (.bool false)).cell (j := 3) rfl
          have f3 := ((hpd.blk.set 4 (.bool false)).set 2 (.bool false)).free 3
          clear hpd
          go_wp2
          go_ret
          rw [HF.out]
          have hf : Frp (fun k => k = b) wr (((wr.setCell ⟨b, 4, none⟩ (.bool false)).setCell ⟨b, 2, none⟩ (.bool false)).setCell ⟨b, 3, none⟩ (.int .i64 0)) := (((Frp.refl (fun k => k = b) wr).set (p := ⟨b, 4, none⟩) rfl _).set (p := ⟨b, 2, none⟩) rfl _).set (p := ⟨b, 3, none⟩) rfl _
          refine ⟨rfl, L', HC.out.pd.flds (D' := { (D.withF (D.F.mapIdx (Dk.keepF keep))).free with off := false }) ?_ hf ?_, (HC.out.st.trans ⟨hf.mono (fun k hk => .inl hk), fun k hk => .inl hk⟩).box HB3.out⟩
          · show D.F.mapIdx (Dk.keepF keep) = cutF keep D.F D.F.length
            rw [cutF_all]
          · exact (((HC.out.pd.blk.set 4 _).set 2 _).set 3 _)
end
end Go.Proofs.Ytgcemddobcjpnaa
namespace Go.Proofs.Ytgcemddobcjpnaa
open Go.RowKit

set_option maxRecDepth 100000 in
set_option maxHeartbeats 2000000 in
theorem rcrash_bad (g : Nat) (vF : Value) (D : Dk) (L : List Rf) (keep : List Int) (v : Value) (w : World) (h : RDk w g vF D L) (hk : Row w v 1 keep.length (keep.map (Value.int .i64))) (hb : Dk.fine keep = false) :
    Calls Try.prog 53 #[ptr g, v] w fun e w' => e = .returned (.int .i64 2) ∧ w = w' := by
  have H := Lib.hid h
  obtain ⟨p, c, rfl, hc, hm, -, -, -, hat⟩ := hk
  have hml : maxLen ≤ 9223372036854775807 := by decide
  have hll : keep.length ≤ 9223372036854775807 := by omega
  have HAT : Hid (∀ k (hk : k < keep.length), ∃ q o, p = some ⟨q, o, none⟩ ∧ w.cell? ⟨q, o + k, none⟩ = some (.int .i64 keep[k])) := Lib.hid (fun k hk => by
    rcases hat with h0 | ⟨q, o, hp, ha⟩
    · have : keep = [] := by simpa using h0
      subst this; simp at hk
    · exact ⟨q, o, hp, ha k _ (by simp [hk])⟩)
  have HBAD : Hid (¬ ∀ k (hk : k < keep.length), 0 ≤ keep[k]) := Lib.hid (fun hh => by
    unfold Dk.fine at hb
    rw [← Bool.not_eq_true, List.all_eq_true] at hb
    refine hb fun x hx => ?_
    obtain ⟨k, hk, rfl⟩ := List.getElem_of_mem hx
    simpa using hh k hk)
  clear h hat hml hm hc hb
  go_enter Try.func53, Try.ntmps53
  go_wp2
  go_loop [5] (fun i => ∃ k : Nat, k ≤ keep.length ∧ i = .int .i64 (k : Int) ∧ Hid (∀ j (hj : j < keep.length), j < k → 0 ≤ keep[j])) (fun i => keep.length - (intOf i).toNat)
  case atStart => exact ⟨0, Nat.zero_le _, rfl, Lib.hid (fun j _ hj => absurd hj (Nat.not_lt_zero _))⟩
  case round =>
    obtain ⟨k, hk, rfl, HG⟩ := hrel
    by_cases hlt : k < keep.length
    · obtain ⟨q, o, rfl, hc⟩ := HAT.out k hlt
      obtain ⟨x, hx⟩ : ∃ x, x = keep[k] := ⟨_, rfl⟩
      rw [← hx] at hc
      have i1 : (k : Int) < (keep.length : Int) := by omega
      have HX := Lib.hid hx
      clear hx
      by_cases h0 : x < 0
      · have d0 : decide (x < 0) = true := by simp; omega
        go_wp2
        go_ret
        exact ⟨rfl, rfl⟩
      · have d0 : decide (x < 0) = false := by simp; omega
        have HG2 : Hid (∀ j (hj : j < keep.length), j < k + 1 → 0 ≤ keep[j]) := Lib.hid (fun j hj hjk => by
          by_cases hjk2 : j < k
          · exact HG.out j hj hjk2
          · obtain rfl : j = k := by omega
            rw [← HX.out]; omega)
        go_wp2
        go_round
        case rel => exact ⟨k + 1, hlt, by go_num, HG2⟩
        case measure => simp [intOf]; omega
    · exact absurd (fun j hj => HG.out j hj (by omega)) HBAD.out

/-- between two rounds: the first i files are cut -/
structure CrD (g : Nat) (vF : Value) (keep : List Int) (D : Dk) (L : List Rf) (w0 w : World) (i : Nat) (L' : List Rf) : Prop where
  rd : RDk w g vF (D.withF (cutF keep D.F i)) L'
  st : RSt w0 w g vF vF L L'
theorem CrD.len {g : Nat} {vF : Value} {keep : List Int} {D : Dk} {L : List Rf} {w0 w : World} {i : Nat} {L' : List Rf} (h : CrD g vF keep D L w0 w i L') : L'.length = D.F.length := by
  rw [h.rd.len]
  exact cutF_len _ _ _
theorem CrD.kept {g : Nat} {vF : Value} {keep : List Int} {D : Dk} {L : List Rf} {w0 w w' : World} {i : Nat} {L' : List Rf} (h : CrD g vF keep D L w0 w i L') (hb : Below w.heap.size w w') : CrD g vF keep D L w0 w' i L' := ⟨h.rd.kept hb, h.st.trans (RSt.of_below hb)⟩
theorem CrD.file {g : Nat} {vF : Value} {keep : List Int} {D : Dk} {L : List Rf} {w0 w : World} {i : Nat} {L' : List Rf} (h : CrD g vF keep D L w0 w i L') (hi : i < D.F.length) : ∃ r q c pv pc, ∃ hl : i < L'.length, r = L'[i] ∧ r.f = D.F[i] ∧ vF = .slice (some ⟨q, 0, none⟩) D.F.length c ∧ r.v = .slice pv r.f.b.length pc ∧ r.f.b.length ≤ pc := by
  have hl : i < L'.length := by rw [h.len]; exact hi
  obtain ⟨q, c, hq, -⟩ := h.rd.at hl
  obtain ⟨pv, pc, hv, hpc, -⟩ := own_slice (h.rd.body _ (List.getElem_mem hl))
  refine ⟨L'[i], q, c, pv, pc, hl, rfl, ?_, by rw [hq, h.len], hv, hpc⟩
  have h1 : (L'.map Rf.f)[i]'(by simpa using hl) = (cutF keep D.F i)[i]'(by rw [cutF_len]; exact hi) := by
    have := h.rd.eq
    simp only [this]
    rfl
  rw [List.getElem_map, cutF_at keep D.F i i hi, if_neg (Nat.lt_irrefl _)] at h1
  exact h1
theorem CrD.cells {g : Nat} {vF : Value} {keep : List Int} {D : Dk} {L : List Rf} {w0 w : World} {i : Nat} {L' : List Rf} (h : CrD g vF keep D L w0 w i L') (hi : i < D.F.length) {r : Rf} {q c : Nat} {pv : Option Addr} {pc : Nat} (hl : i < L'.length) (hr : r = L'[i]) (hv : vF = .slice (some ⟨q, 0, none⟩) D.F.length c) (hrv : r.v = .slice pv r.f.b.length pc) :
    w.cell? ⟨g, 1, none⟩ = some (.slice (some ⟨q, 0, none⟩) D.F.length c) ∧ w.cell? ⟨q, i * 3 + 1, none⟩ = some (.slice pv r.f.b.length pc) ∧ w.cell? ⟨q, i * 3 + 2, none⟩ = some (.int .i64 (r.f.s : Int)) ∧ (∀ j, w.frozen? ⟨q, j, none⟩ = false) := by
  obtain ⟨q2, c2, e, -, -, e1, e2⟩ := h.rd.at hl
  have h7 := h.rd.row
  rw [hv] at e
  rw [hv, ← h.len] at h7
  simp only [Value.slice.injEq, Option.some.injEq, Addr.mk.injEq, and_true, true_and] at e
  obtain ⟨rfl, -, rfl⟩ := e
  rw [← hr] at e1 e2
  exact ⟨by rw [← hv]; exact h.rd.blk.cell (j := 1) rfl, by rw [← hrv]; exact e1, e2, own_free h7⟩
theorem CrD.next {g : Nat} {vF : Value} {keep : List Int} {D : Dk} {L : List Rf} {w0 w w8 : World} {i n : Nat} {L' : List Rf} (h : CrD g vF keep D L w0 w i L') (hs : ∀ f ∈ D.F, f.s ≤ f.b.length) (hi : i < D.F.length) {r : Rf} (hl : i < L'.length) (hr : r = L'[i]) (hrf : r.f = D.F[i]) {q c : Nat} {pv : Option Addr} {pc : Nat} (hv : vF = .slice (some ⟨q, 0, none⟩) D.F.length c) (hrv : r.v = .slice pv r.f.b.length pc) (hn : n = Dk.keepN keep i r.f)
    (hb : Below w.heap.size w w8) :
    ∃ L2, CrD g vF keep D L w0 ((w8.setCell ⟨q, i * 3 + 1, none⟩ (.slice pv (r.f.s + n) pc)).setCell ⟨q, i * 3 + 2, none⟩ (.int .i64 ((r.f.s + n : Nat) : Int))) (i + 1) L2 := by
  subst hn
  have h8 := h.kept hb
  have hle := keepN_le keep i r.f
  have hsl : r.f.s ≤ r.f.b.length := by rw [hrf]; exact hs _ (List.getElem_mem hi)
  have hv' : vF = .slice (some ⟨q, 0, none⟩) L'.length c := by rw [h.len]; exact hv
  have hbody : Fresh 0 w8 (.slice pv (r.f.s + Dk.keepN keep i r.f) pc) (r.f.b.take (r.f.s + Dk.keepN keep i r.f)) := by
    have hb := h8.rd.body r (by rw [hr]; exact List.getElem_mem hl)
    rw [hrv] at hb
    unfold Fresh
    rw [List.length_take, Nat.min_eq_left (by omega), List.map_take]
    rcases hb.2 with ⟨e, h0⟩ | ⟨g, cap, cur, e, -, -, -⟩
    · simp only [Value.slice.injEq] at e
      obtain ⟨rfl, hn, rfl⟩ := e
      have h1 : r.f.s + Dk.keepN keep i r.f = 0 := by omega
      rw [h1]
      exact World.ownsRow_nil _ _ _ _
    · simp only [Value.slice.injEq] at e
      obtain ⟨rfl, -, rfl⟩ := e
      have := own_cut hb (m := r.f.s + Dk.keepN keep i r.f) (by omega)
      simpa using this
  have h1 := h8.rd.setAt (i := i) (j := 1) (u := .slice pv (r.f.s + Dk.keepN keep i r.f) pc) (x := ⟨{ r.f with b := r.f.b.take (r.f.s + Dk.keepN keep i r.f) }, .slice pv (r.f.s + Dk.keepN keep i r.f) pc⟩) (D' := D.withF ((cutF keep D.F i).set i { r.f with b := r.f.b.take (r.f.s + Dk.keepN keep i r.f) })) hl (by omega) (by rw [← hr]; rfl) hv' hbody rfl rfl
  have hl1 : i < (L'.set i ⟨{ r.f with b := r.f.b.take (r.f.s + Dk.keepN keep i r.f) }, .slice pv (r.f.s + Dk.keepN keep i r.f) pc⟩).length := by rw [List.length_set]; exact hl
  have h2 := h1.setAt (i := i) (j := 2) (u := .int .i64 ((r.f.s + Dk.keepN keep i r.f : Nat) : Int)) (x := ⟨Dk.keepF keep i r.f, .slice pv (r.f.s + Dk.keepN keep i r.f) pc⟩) (D' := D.withF (cutF keep D.F (i + 1))) hl1 (by omega) (by rw [List.getElem_set_self]; rfl) (by rw [List.length_set]; exact hv') (h1.body ⟨{ r.f with b := r.f.b.take (r.f.s + Dk.keepN keep i r.f) }, .slice pv (r.f.s + Dk.keepN keep i r.f) pc⟩ (List.mem_set hl _)) (by
    show cutF keep D.F (i + 1) = ((cutF keep D.F i).set i _).set i _
    rw [List.set_set, hrf, cutF_next]) rfl
  have hq : fpR g vF L' q := .inr (.inl (by rw [hv]; rfl))
  have hfr : Frp (fpR g vF L') w ((w8.setCell ⟨q, i * 3 + 1, none⟩ (.slice pv (r.f.s + Dk.keepN keep i r.f) pc)).setCell ⟨q, i * 3 + 2, none⟩ (.int .i64 ((r.f.s + Dk.keepN keep i r.f : Nat) : Int))) := ((Frp.of_below hb _).set (p := ⟨q, i * 3 + 1, none⟩) hq _).set (p := ⟨q, i * 3 + 2, none⟩) hq _
  have hown : ∀ y, (Value.slice pv (r.f.s + Dk.keepN keep i r.f) pc).ownBlock = some y → fpR g vF L' y := fun y hy => .inr (.inr ⟨r, by rw [hr]; exact List.getElem_mem hl, by rw [hrv]; cases pv <;> exact hy⟩)
  refine ⟨_, h2, h.st.trans ⟨hfr, fun y hy => .inl ?_⟩⟩
  rcases fpR_set hy with h3 | h3
  · rcases fpR_set h3 with h4 | h4
    · exact h4
    · exact hown y h4
  · exact hown y h3

set_option maxRecDepth 100000 in
set_option maxHeartbeats 4000000 in
theorem rcrash_ok (g : Nat) (vF : Value) (D : Dk) (L : List Rf) (M : Nat) (N : Int) (keep : List Int) (v : Value) (w : World) (h : RDk w g vF D L) (hi : DkI D M N) (hM : M ≤ 100000) (hk : Row w v 1 keep.length (keep.map (Value.int .i64))) (hap : keep ≠ [] → ∀ y, fpR g vF L y → v.ownBlock ≠ some y) (hb : Dk.fine keep = true) (hwf : ∀ x ∈ keep, x ≤ 9223372036854775807) :
    Calls Try.prog 53 #[ptr g, v] w fun e w' => e = .returned (.int .i64 0) ∧ RdTo w w' g vF L (D.crash keep).2 := by
  have HF : Hid ((D.crash keep).2 = { (D.withF (D.F.mapIdx (Dk.keepF keep))).free with off := false }) := Lib.hid (by unfold Dk.crash; rw [if_pos hb])
  have HI := Lib.hid hi
  have HLEN : Hid (D.F.length ≤ 100000) := Lib.hid (Nat.le_trans hi.len hM)
  have HAP := Lib.hid hap
  have HPOS : Hid (∀ k (hk : k < keep.length), 0 ≤ keep[k] ∧ keep[k] ≤ 9223372036854775807) := Lib.hid (fun k hk => ⟨by
    unfold Dk.fine at hb
    have := List.all_eq_true.1 hb keep[k] (List.getElem_mem hk)
    simpa using this, hwf _ (List.getElem_mem hk)⟩)
  obtain ⟨p, c, rfl, hc, hm, -, -, -, hat⟩ := hk
  have hml : maxLen ≤ 9223372036854775807 := by decide
  have hll : keep.length ≤ 9223372036854775807 := by omega
  have HAT : Hid (∀ k (hk : k < keep.length), ∃ q o, p = some ⟨q, o, none⟩ ∧ w.cell? ⟨q, o + k, none⟩ = some (.int .i64 keep[k])) := Lib.hid (fun k hk => by
    rcases hat with h0 | ⟨q, o, hp, ha⟩
    · have : keep = [] := by simpa using h0
      subst this; simp at hk
    · exact ⟨q, o, hp, ha k _ (by simp [hk])⟩)
  have HC0 : Hid (CrD g vF keep D L w w 0 L) := Lib.hid ⟨by rw [cutF_zero]; exact h, RSt.of_below (Below.refl _ _)⟩
  have hl3 : D.F.length ≤ 100000 := HLEN.out
  clear h hat hml hm hc hb hi hM hap hwf
  go_enter Try.func53, Try.ntmps53
  go_wp2
  go_loop [5] (fun i => ∃ k : Nat, k ≤ keep.length ∧ i = .int .i64 (k : Int)) (fun i => keep.length - (intOf i).toNat)
  case atStart => exact ⟨0, Nat.zero_le _, rfl⟩
  case round =>
    obtain ⟨k, hk, rfl⟩ := hrel
    by_cases hlt : k < keep.length
    · obtain ⟨q, o, rfl, hc⟩ := HAT.out k hlt
      have hx0 := HPOS.out k hlt
      obtain ⟨x, hx⟩ : ∃ x, x = keep[k] := ⟨_, rfl⟩
      rw [← hx] at hc hx0
      have i1 : (k : Int) < (keep.length : Int) := by omega
      have d0 : decide (x < 0) = false := by simp; omega
      clear hx hx0
      go_wp2
      go_round
      case rel => exact ⟨k + 1, hlt, by go_num⟩
      case measure => simp [intOf]; omega
    · obtain rfl : k = keep.length := by omega
      clear hlt hk
      go_wp2
      go_loopw [6] (fun i wr => ∃ (k : Nat) (L' : List Rf), k ≤ D.F.length ∧ i = .int .i64 (k : Int) ∧ Hid (CrD g vF keep D L w wr k L')) (fun i _ => D.F.length - (intOf i).toNat)
      case atStart => exact ⟨0, L, Nat.zero_le _, rfl, HC0⟩
      case round =>
        obtain ⟨k, L', hk, rfl, HC⟩ := hrel
        by_cases hlt : k < D.F.length
        · obtain ⟨r, q, c, pv, pc, hl, hr, hrf, hv, hrv, hpc⟩ := HC.out.file hlt
          obtain ⟨n, hn⟩ : ∃ n, n = Dk.keepN keep k r.f := ⟨_, rfl⟩
          have hnl := keepN_le keep k r.f
          rw [← hn] at hnl
          have hsl : r.f.s ≤ r.f.b.length := by rw [hrf]; exact HI.out.syn _ (List.getElem_mem hlt)
          have hbl : r.f.b.length ≤ 1073741824 := by
            have h1 : (r.f.b.length : Int) ≤ D.room := by rw [hrf]; exact HI.out.one_le (List.getElem_mem hlt)
            have := HI.out.room
            omega
          have HCELL : Hid (∀ w6, Below wr.heap.size wr w6 → w6.cell? ⟨g, 1, none⟩ = some (.slice (some ⟨q, 0, none⟩) D.F.length c) ∧ w6.cell? ⟨q, k * 3 + 1, none⟩ = some (.slice pv r.f.b.length pc) ∧ w6.cell? ⟨q, k * 3 + 2, none⟩ = some (.int .i64 (r.f.s : Int)) ∧ (∀ j, w6.frozen? ⟨q, j, none⟩ = false)) := Lib.hid (fun w6 hb => (HC.out.kept hb).cells hlt hl hr hv hrv)
          have HNX : Hid (∀ w8, Below wr.heap.size wr w8 → ∃ L2, CrD g vF keep D L w ((w8.setCell ⟨q, k * 3 + 1, none⟩ (.slice pv (r.f.s + n) pc)).setCell ⟨q, k * 3 + 2, none⟩ (.int .i64 ((r.f.s + n : Nat) : Int))) (k + 1) L2) := Lib.hid (fun w8 hb => HC.out.next HI.out.syn hlt hl hr hrf hv hrv hn hb)
          have HQB : Hid (∀ (w8 : World), Below wr.heap.size wr w8 → (w8.setCell ⟨q, k * 3 + 1, none⟩ (.slice pv (r.f.s + n) pc)).cell? ⟨g, 1, none⟩ = some (.slice (some ⟨q, 0, none⟩) D.F.length c) ∧ ∀ j, (w8.setCell ⟨q, k * 3 + 1, none⟩ (.slice pv (r.f.s + n) pc)).frozen? ⟨q, j, none⟩ = false) := Lib.hid (fun w8 hb => by
            have h8 := HC.out.kept hb
            have hne : q ≠ g := fun e => h8.rd.ne_row (by rw [hv, ← e]; rfl)
            have hf : Frp (fun y => y = q) w8 (w8.setCell ⟨q, k * 3 + 1, none⟩ (.slice pv (r.f.s + n) pc)) := (Frp.refl (fun y => y = q) w8).set (p := ⟨q, k * 3 + 1, none⟩) rfl _
            refine ⟨cell_frp (h8.cells hlt hl hr hv hrv).1 hf (fun e => hne e.symm), fun j => ?_⟩
            have hrow := h8.rd.row
            rw [hv, ← h8.len] at hrow
            exact own_free (own_set hrow (k := k * 3 + 1) (by have := h8.len; omega) (.slice pv (r.f.s + n) pc)) j)
          have HQC : Hid (∀ (w8 : World), Below wr.heap.size wr w8 → (w8.setCell ⟨q, k * 3 + 1, none⟩ (.slice pv (r.f.s + n) pc)).cell? ⟨q, k * 3 + 2, none⟩ = some (.int .i64 (r.f.s : Int))) := Lib.hid (fun w8 hb => by
            rw [World.cell?_setCell_other _ _ _ _ (by intro e; simp at e)]
            exact ((HC.out.kept hb).cells hlt hl hr hv hrv).2.2.1)
          have HNN := Lib.hid hn
          obtain ⟨x0, x1, x2, -⟩ := HCELL.out wr (Below.refl _ _)
          have i1 : (k : Int) < (D.F.length : Int) := by omega
          have b0 : (0 : Int) ≤ (k : Int) := by omega
          have b1 : (0 : Int) ≤ (r.f.s : Int) := by omega
          have b2 : (r.f.s : Int) ≤ (r.f.b.length : Int) := by omega
          have b3 : (n : Int) ≤ (r.f.b.length : Int) - (r.f.s : Int) := by omega
          have b4 : (0 : Int) ≤ (n : Int) := by omega
          have b5 : (r.f.b.length : Int) ≤ (pc : Int) := by omega
          have b6 : (r.f.b.length : Int) ≤ 1073741824 := by omega
          have ecast : ((r.f.s + n : Nat) : Int) = (r.f.s : Int) + (n : Int) := by omega
          have u1 : IntKind.i64.wrap ((r.f.b.length : Int) - (r.f.s : Int)) = (r.f.b.length : Int) - (r.f.s : Int) := by rw [IntKind.wrap_i64]; omega
          have u2 : IntKind.i64.wrap ((r.f.s : Int) + (n : Int)) = (r.f.s : Int) + (n : Int) := by rw [IntKind.wrap_i64]; omega
          rw [ecast] at HNX
          clear hl hr hrf hv hrv hpc hn hnl hsl hbl ecast
          by_cases hkk : k < keep.length
          · have i2 : (k : Int) < (keep.length : Int) := by omega
            obtain ⟨q0, o, rfl, hc⟩ := HAT.out k hkk
            have kc : wr.cell? ⟨q0, o + k, none⟩ = some (.int .i64 keep[k]) := cell_frp hc HC.out.st.fr (fun hq => HAP.out (fun e => by rw [e] at hkk; simp at hkk) q0 hq rfl)
            obtain ⟨x, hx⟩ : ∃ x, x = keep[k] := ⟨_, rfl⟩
            rw [← hx] at kc
            have hmn : min x ((r.f.b.length : Int) - (r.f.s : Int)) = (n : Int) := by
              have h1 := (HPOS.out k hkk).1
              have h2 := HNN.out
              rw [keepN_some hkk, ← hx] at h2
              rw [← hx] at h1
              omega
            clear hc hx hkk
            go_upto_region 11 with fail
            have q5 := Past.cell kc
            have q6 := Past.cell x0
            have q7 := Past.cell x1
            refine wp_region_past (by kernel_rfl) (by kernel_rfl) ?_
            repeat (go_big_quiet_step (fail))
            refine wpQuiet_nil ?_
            intro _ hw'
            obtain ⟨s', hw''⟩ := hw'
            subst hw''
            obtain ⟨w5, h5, e5⟩ : ∃ w5, Below wr.heap.size wr w5 ∧ w5 = s'.val := ⟨_, s'.h, rfl⟩
            rw [← e5]
            have HB5 := Lib.hid h5
            clear h5 e5 q5 q6 q7 x0 x1 x2 kc
            obtain ⟨x0, x1, x2, -⟩ := HCELL.out w5 HB5.out
            go_upto_region 12 with fail
            have q6 := Past.cell x0
            have q7 := Past.cell x1
            refine wp_region_past_one rfl (by kernel_rfl) (by kernel_rfl) (by kernel_rfl) ?_
            repeat (go_big_quiet_step (fail))
            refine wpQuiet_nil ?_
            intro _ hw'
            obtain ⟨s', hw''⟩ := hw'
            subst hw''
            obtain ⟨w6, h6, e6⟩ : ∃ w6, Below w5.heap.size w5 w6 ∧ w6 = s'.val := ⟨_, s'.h, rfl⟩
            rw [← e6]
            have HB6 := Lib.hid (below_and HB5.out h6)
            clear h6 e6 q6 q7 x0 x1 x2
            obtain ⟨-, x1, -, x4⟩ := HCELL.out w6 HB6.out
            have f1 := x4 (k * 3 + 1)
            obtain ⟨y0, y4⟩ := HQB.out w6 HB6.out
            have y2 := HQC.out w6 HB6.out
            have f2 := y4 (k * 3 + 2)
            obtain ⟨L2, hL2⟩ := HNX.out w6 HB6.out
            have HL2 := Lib.hid hL2
            clear x4 y4 hL2
            go_wp2
            go_roundw
            case rel => exact ⟨k + 1, L2, hlt, by go_num, HL2⟩
            case measure => simp [intOf]; omega
          · have i2 : ¬ (k : Int) < (keep.length : Int) := by omega
            have hn0 : n = 0 := by rw [HNN.out, keepN_none hkk]
            subst hn0
            simp only [Nat.add_zero, Int.ofNat_zero, Int.add_zero, Int.natCast_zero] at HNX HQB HQC
            clear hkk u2 b3 b4
            go_upto_region 12 with fail
            have q6 := Past.cell x0
            have q7 := Past.cell x1
            refine wp_region_past_one rfl (by kernel_rfl) (by kernel_rfl) (by kernel_rfl) ?_
            repeat (go_big_quiet_step (fail))
            refine wpQuiet_nil ?_
            intro _ hw'
            obtain ⟨s', hw''⟩ := hw'
            subst hw''
            obtain ⟨w6, h6, e6⟩ : ∃ w6, Below wr.heap.size wr w6 ∧ w6 = s'.val := ⟨_, s'.h, rfl⟩
            rw [← e6]
            have HB6 := Lib.hid h6
            clear h6 e6 q6 q7 x0 x1 x2
            obtain ⟨-, x1, -, x4⟩ := HCELL.out w6 HB6.out
            have f1 := x4 (k * 3 + 1)
            obtain ⟨y0, y4⟩ := HQB.out w6 HB6.out
            have y2 := HQC.out w6 HB6.out
            have f2 := y4 (k * 3 + 2)
            obtain ⟨L2, hL2⟩ := HNX.out w6 HB6.out
            have HL2 := Lib.hid hL2
            clear x4 y4 hL2
            go_wp2
            go_roundw
            case rel => exact ⟨k + 1, L2, hlt, by go_num, HL2⟩
            case measure => simp [intOf]; omega
        · obtain rfl : k = D.F.length := by omega
          obtain ⟨D1, hD1⟩ : ∃ D1, D1 = D.withF (cutF keep D.F D.F.length) := ⟨_, rfl⟩
          have hrd := HC.out.rd
          rw [← hD1] at hrd
          have HRD := Lib.hid hrd
          have hb4 := hrd.blk.set 4 (.bool false)
          have hf4 : Frp (fun k => k = g) wr (wr.setCell ⟨g, 4, none⟩ (.bool false)) := (Frp.refl (fun k => k = g) wr).set (p := ⟨g, 4, none⟩) rfl _
          have HR4 : Hid (RDk (wr.setCell ⟨g, 4, none⟩ (.bool false)) g vF { D1 with off := false } L') := Lib.hid (hrd.flds rfl hf4 hb4)
          have HFR := Lib.hid (rfree_any g vF { D1 with off := false } L' _ HR4.out)
          have HF4 := Lib.hid hf4
          have HLL := Lib.hid hrd.len
          obtain ⟨pq, cq, hvq, -⟩ := hrd.shape
          have hlq : L'.length = D.F.length := HC.out.len
          have c1 := hrd.blk.cell (j := 1) rfl
          rw [hvq, hlq] at c1
          have c4 := hrd.blk.cell (j := 4) rfl
          have f4 := hrd.blk.free 4
          have HD1 : Hid ({ D1 with off := false }.free = { (D.withF (D.F.mapIdx (Dk.keepF keep))).free with off := false }) := Lib.hid (by rw [hD1, cutF_all]; rfl)
          clear hrd hb4 hf4 hvq hlq hD1
          go_wp2_with (go_at_call 52; refine HFR.out.mono ?_; rintro e w7 ⟨rfl, hd⟩; have HD7 := Lib.hid hd; clear hd)
          go_ret
          rw [HF.out, ← HD1.out]
          obtain ⟨v9, L9, h9, s9⟩ := HD7.out
          exact ⟨rfl, v9, L9, h9, (HC.out.st.trans ⟨HF4.out.mono (fun y hy => .inl hy), fun y hy => .inl hy⟩).trans s9⟩
end Go.Proofs.Ytgcemddobcjpnaa
namespace Go.Proofs.Ytgcemddobcjpnaa
open Go.RowKit

/-- a disk of the call's own -/
structure Od (X : Nat → Prop) (wx w0 w : World) (b : Nat) (D : Dk) : Prop where
  d : ∃ mb L, PDk w b mb D L ∧ ∀ k, fpP b mb L k → w0.heap.size ≤ k ∧ ¬ X k
  xl : ∀ k, X k → k < w.heap.size
  fx : Frp (fun k => ¬ X k) wx w
  bel : Below w0.heap.size w0 w
/-- two of them -/
structure Tw (X : Nat → Prop) (wx w0 w : World) (b g : Nat) (D E : Dk) : Prop where
  d : ∃ mb L vF L2, PDk w b mb D L ∧ RDk w g vF E L2 ∧ (∀ k, fpP b mb L k → w0.heap.size ≤ k ∧ ¬ X k) ∧ (∀ k, fpR g vF L2 k → w0.heap.size ≤ k ∧ ¬ X k) ∧ ∀ k, fpP b mb L k → ¬ fpR g vF L2 k
  xl : ∀ k, X k → k < w.heap.size
  fx : Frp (fun k => ¬ X k) wx w
  bel : Below w0.heap.size w0 w
theorem Frp.belowX {X : Nat → Prop} {wx w w' : World} (h : Frp (fun k => ¬ X k) wx w) (hb : Below w.heap.size w w') : Frp (fun k => ¬ X k) wx w' := h.next hb
section
variable {X : Nat → Prop} {wx w0 w w' : World} {b g : Nat} {D E : Dk}
theorem Od.kept (h : Od X wx w0 w b D) (hb : Below w.heap.size w w') : Od X wx w0 w' b D := by
  obtain ⟨mb, L, h1, h2⟩ := h.d
  exact ⟨⟨mb, L, h1.kept hb, h2⟩, fun k hk => Nat.lt_of_lt_of_le (h.xl k hk) hb.size, h.fx.belowX hb, below_and h.bel hb⟩
theorem Tw.kept (h : Tw X wx w0 w b g D E) (hb : Below w.heap.size w w') : Tw X wx w0 w' b g D E := by
  obtain ⟨mb, L, vF, L2, h1, h2, h3, h4, h5⟩ := h.d
  exact ⟨⟨mb, L, vF, L2, h1.kept hb, h2.kept hb, h3, h4, h5⟩, fun k hk => Nat.lt_of_lt_of_le (h.xl k hk) hb.size, h.fx.belowX hb, below_and h.bel hb⟩
theorem Tw.od (h : Tw X wx w0 w b g D E) : Od X wx w0 w b D := by
  obtain ⟨mb, L, vF, L2, h1, h2, h3, h4, h5⟩ := h.d
  exact ⟨⟨mb, L, h1, h3⟩, h.xl, h.fx, h.bel⟩
/-- other blocks are watched, from here on -/
theorem Od.swap (h : Od X wx w0 w b D) (Y : Nat → Prop) (hx : ∀ k, Y k → k < w.heap.size) (hy : ∀ mb L, PDk w b mb D L → (∀ k, fpP b mb L k → w0.heap.size ≤ k ∧ ¬ X k) → ∀ k, fpP b mb L k → ¬ Y k) : Od Y w w0 w b D := by
  obtain ⟨mb, L, h1, h2⟩ := h.d
  exact ⟨⟨mb, L, h1, fun k hk => ⟨(h2 k hk).1, hy mb L h1 h2 k hk⟩⟩, hx, Frp.refl _ _, h.bel⟩
/-- one block more is watched: one that was just made -/
theorem Tw.watch {wa : World} (h : Tw X wx w0 wa b g D E) (hb : Below wa.heap.size wa w) (Y : Nat → Prop) (hx : ∀ k, Y k → k < w.heap.size) (hy : ∀ k, Y k → X k ∨ wa.heap.size ≤ k) : Tw Y w w0 w b g D E := by
  obtain ⟨mb, L, vF, L2, h1, h2, h3, h4, h5⟩ := h.d
  refine ⟨⟨mb, L, vF, L2, h1.kept hb, h2.kept hb, fun k hk => ⟨(h3 k hk).1, fun hk2 => ?_⟩, fun k hk => ⟨(h4 k hk).1, fun hk2 => ?_⟩, h5⟩, hx, Frp.refl _ _, below_and h.bel hb⟩
  · rcases hy k hk2 with h6 | h6
    · exact (h3 k hk).2 h6
    · have := h1.lt hk; omega
  · rcases hy k hk2 with h6 | h6
    · exact (h4 k hk).2 h6
    · have := h2.lt hk; omega
/-- back to the blocks that were watched -/
theorem Tw.back {Y : Nat → Prop} {wy : World} (h : Tw Y wy w0 w b g D E) (hy : ∀ k, X k → Y k) (hf : Frp (fun k => ¬ X k) wx wy) : Tw X wx w0 w b g D E := by
  obtain ⟨mb, L, vF, L2, h1, h2, h3, h4, h5⟩ := h.d
  exact ⟨⟨mb, L, vF, L2, h1, h2, fun k hk => ⟨(h3 k hk).1, fun hx => (h3 k hk).2 (hy k hx)⟩, fun k hk => ⟨(h4 k hk).1, fun hx => (h4 k hk).2 (hy k hx)⟩, h5⟩, fun k hk => h.xl k (hy k hk), hf.then (h.fx.mono (fun k hk hx => hk (hy k hx))), h.bel⟩
/-- a disk of the document's is made beside it -/
theorem Od.beside (h : Od X wx w0 w b D) (hg : w.heap.size ≤ g) (hr : RDk w' g (.slice none 0 0) E []) (hb : Below w.heap.size w w') : Tw X wx w0 w' b g D E := by
  obtain ⟨mb, L, h1, h2⟩ := h.d
  have hfp : ∀ k, fpR g (.slice none 0 0) [] k → k = g := fun k hk => by
    rcases hk with hk | hk | ⟨r, hr, -⟩
    · exact hk
    · cases hk
    · cases hr
  refine ⟨⟨mb, L, _, [], h1.kept hb, hr, h2, fun k hk => ?_, fun k hk hk2 => ?_⟩, fun k hk => Nat.lt_of_lt_of_le (h.xl k hk) hb.size, h.fx.belowX hb, below_and h.bel hb⟩
  · rw [hfp k hk]
    exact ⟨Nat.le_trans h.bel.size hg, fun hx => by have := h.xl g hx; omega⟩
  · have h3 := h1.lt hk
    rw [hfp k hk2] at h3
    omega
theorem Od.turn {mb : Nat} {L : List Pf} {D' : Dk} (h : Od X wx w0 w b D) (h2 : ∀ k, fpP b mb L k → w0.heap.size ≤ k ∧ ¬ X k) (ht : DkTo w w' b mb L D') : Od X wx w0 w' b D' := by
  obtain ⟨L', h3, h4⟩ := ht
  have hn : ∀ k, fpP b mb L' k → w0.heap.size ≤ k ∧ ¬ X k := fun k hk => by
    rcases h4.new k hk with h5 | h5
    · exact h2 k h5
    · exact ⟨Nat.le_trans h.bel.size h5, fun hx => by have := h.xl k hx; omega⟩
  exact ⟨⟨mb, L', h3, hn⟩, fun k hk => Nat.lt_of_lt_of_le (h.xl k hk) h4.fr.size, h.fx.then (h4.fr.mono (fun k hk => (h2 k hk).2)), h.bel.trans (h4.fr.below (fun k hk => (h2 k hk).1) h.bel.size)⟩
theorem Tw.turn1 {mb : Nat} {L : List Pf} {vF : Value} {L2 : List Rf} {D' : Dk} (h : Tw X wx w0 w b g D E) (hr : RDk w g vF E L2) (h2 : ∀ k, fpP b mb L k → w0.heap.size ≤ k ∧ ¬ X k) (h6 : ∀ k, fpR g vF L2 k → w0.heap.size ≤ k ∧ ¬ X k) (h7 : ∀ k, fpP b mb L k → ¬ fpR g vF L2 k) (ht : DkTo w w' b mb L D') : Tw X wx w0 w' b g D' E := by
  obtain ⟨L', h3, h4⟩ := ht
  have hn : ∀ k, fpP b mb L' k → (w0.heap.size ≤ k ∧ ¬ X k) ∧ ¬ fpR g vF L2 k := fun k hk => by
    rcases h4.new k hk with h5 | h5
    · exact ⟨h2 k h5, h7 k h5⟩
    · exact ⟨⟨Nat.le_trans h.bel.size h5, fun hx => by have := h.xl k hx; omega⟩, fun hx => by have := hr.lt hx; omega⟩
  exact ⟨⟨mb, L', vF, L2, h3, hr.frp h4.fr (fun k hk hk2 => h7 k hk2 hk), fun k hk => (hn k hk).1, h6, fun k hk => (hn k hk).2⟩, fun k hk => Nat.lt_of_lt_of_le (h.xl k hk) h4.fr.size, h.fx.then (h4.fr.mono (fun k hk => (h2 k hk).2)), h.bel.trans (h4.fr.below (fun k hk => (h2 k hk).1) h.bel.size)⟩
theorem Tw.turn2 {mb : Nat} {L : List Pf} {vF : Value} {L2 : List Rf} {E' : Dk} (h : Tw X wx w0 w b g D E) (hd : PDk w b mb D L) (h2 : ∀ k, fpP b mb L k → w0.heap.size ≤ k ∧ ¬ X k) (h6 : ∀ k, fpR g vF L2 k → w0.heap.size ≤ k ∧ ¬ X k) (h7 : ∀ k, fpP b mb L k → ¬ fpR g vF L2 k) (ht : RdTo w w' g vF L2 E') : Tw X wx w0 w' b g D E' := by
  obtain ⟨vF', L', h3, h4⟩ := ht
  have hn : ∀ k, fpR g vF' L' k → (w0.heap.size ≤ k ∧ ¬ X k) ∧ ¬ fpP b mb L k := fun k hk => by
    rcases h4.new k hk with h5 | h5
    · exact ⟨h6 k h5, fun hx => h7 k hx h5⟩
    · exact ⟨⟨Nat.le_trans h.bel.size h5, fun hx => by have := h.xl k hx; omega⟩, fun hx => by have := hd.lt hx; omega⟩
  exact ⟨⟨mb, L, vF', L', hd.frp h4.fr (fun k hk hk2 => h7 k hk hk2), h3, h2, fun k hk => (hn k hk).1, fun k hk hk2 => (hn k hk2).2 hk⟩, fun k hk => Nat.lt_of_lt_of_le (h.xl k hk) h4.fr.size, h.fx.then (h4.fr.mono (fun k hk => (h6 k hk).2)), h.bel.trans (h4.fr.below (fun k hk => (h6 k hk).1) h.bel.size)⟩
/-- a call at the disk -/
theorem Od.run {f : FuncId} {args : Array Value} {r : Value} {D' : Dk} (h : Od X wx w0 w b D) (hc : ∀ mb L, PDk w b mb D L → (∀ k, fpP b mb L k → w0.heap.size ≤ k ∧ ¬ X k) → Calls Try.prog f args w fun e w' => e = .returned r ∧ DkTo w w' b mb L D') : Calls Try.prog f args w fun e w' => e = .returned r ∧ Od X wx w0 w' b D' := by
  obtain ⟨mb, L, h1, h2⟩ := h.d
  exact (hc mb L h1 h2).mono fun e w' ⟨he, ht⟩ => ⟨he, h.turn h2 ht⟩
theorem Tw.run1 {f : FuncId} {args : Array Value} {r : Value} {D' : Dk} (h : Tw X wx w0 w b g D E) (hc : ∀ mb L, PDk w b mb D L → (∀ k, fpP b mb L k → w0.heap.size ≤ k ∧ ¬ X k) → Calls Try.prog f args w fun e w' => e = .returned r ∧ DkTo w w' b mb L D') : Calls Try.prog f args w fun e w' => e = .returned r ∧ Tw X wx w0 w' b g D' E := by
  obtain ⟨mb, L, vF, L2, h1, h2, h3, h4, h5⟩ := h.d
  exact (hc mb L h1 h3).mono fun e w' ⟨he, ht⟩ => ⟨he, h.turn1 h2 h3 h4 h5 ht⟩
theorem Tw.run2 {f : FuncId} {args : Array Value} {r : Value} {E' : Dk} (h : Tw X wx w0 w b g D E) (hc : ∀ vF L2, RDk w g vF E L2 → (∀ k, fpR g vF L2 k → w0.heap.size ≤ k ∧ ¬ X k) → Calls Try.prog f args w fun e w' => e = .returned r ∧ RdTo w w' g vF L2 E') : Calls Try.prog f args w fun e w' => e = .returned r ∧ Tw X wx w0 w' b g D E' := by
  obtain ⟨mb, L, vF, L2, h1, h2, h3, h4, h5⟩ := h.d
  exact (hc vF L2 h2 h4).mono fun e w' ⟨he, ht⟩ => ⟨he, h.turn2 h1 h3 h4 h5 ht⟩
/-- a call that only reads -/
theorem Od.see {f : FuncId} {args : Array Value} {Q : Ending → World → Prop} (h : Od X wx w0 w b D) (hc : ∀ mb L, PDk w b mb D L → Calls Try.prog f args w fun e w' => Q e w' ∧ Below w.heap.size w w') : Calls Try.prog f args w fun e w' => Q e w' ∧ Below w.heap.size w w' ∧ Od X wx w0 w' b D := by
  obtain ⟨mb, L, h1, h2⟩ := h.d
  exact (hc mb L h1).mono fun e w' ⟨he, hb⟩ => ⟨he, hb, h.kept hb⟩
end
end Go.Proofs.Ytgcemddobcjpnaa
namespace Go.Proofs.Ytgcemddobcjpnaa
open Go.RowKit

structure Good (D : Dk) (M : Nat) (N : Int) : Prop where
  i : DkI D M N
  m : M ≤ 100000
  n : N + 2000 < 4611686018427387904
theorem Od.watch {X : Nat → Prop} {wx w0 wa w : World} {b : Nat} {D : Dk} (h : Od X wx w0 wa b D) (hb : Below wa.heap.size wa w) (Y : Nat → Prop) (hx : ∀ k, Y k → k < w.heap.size) (hy : ∀ k, Y k → X k ∨ wa.heap.size ≤ k) : Od Y w w0 w b D := by
  obtain ⟨mb, L, h1, h3⟩ := h.d
  refine ⟨⟨mb, L, h1.kept hb, fun k hk => ⟨(h3 k hk).1, fun hk2 => ?_⟩⟩, hx, Frp.refl _ _, below_and h.bel hb⟩
  rcases hy k hk2 with h6 | h6
  · exact (h3 k hk).2 h6
  · have := h1.lt hk; omega
theorem Od.back {X Y : Nat → Prop} {wx w0 w wy : World} {b : Nat} {D : Dk} (h : Od Y wy w0 w b D) (hy : ∀ k, X k → Y k) (hf : Frp (fun k => ¬ X k) wx wy) : Od X wx w0 w b D := by
  obtain ⟨mb, L, h1, h3⟩ := h.d
  exact ⟨⟨mb, L, h1, fun k hk => ⟨(h3 k hk).1, fun hx => (h3 k hk).2 (hy k hx)⟩⟩, fun k hk => h.xl k (hy k hk), hf.then (h.fx.mono (fun k hk hx => hk (hy k hx))), h.bel⟩
section
variable {X : Nat → Prop} {wx w0 w : World} {b g : Nat} {D E : Dk} {M : Nat} {N : Int}
theorem crash_all (b mb : Nat) (D : Dk) (L : List Pf) (M : Nat) (N : Int) (keep : List Int) (v : Value) (w : World) (h : PDk w b mb D L) (hi : DkI D M N) (hM : M ≤ 100000) (hk : Row w v 1 keep.length (keep.map (Value.int .i64))) (hap : keep ≠ [] → ∀ g, fpP b mb L g → v.ownBlock ≠ some g) (hwf : ∀ x ∈ keep, x ≤ 9223372036854775807) :
    Calls Try.prog 13 #[ptr b, v] w fun e w' => e = .returned (.int .i64 (D.crash keep).1) ∧ DkTo w w' b mb L (D.crash keep).2 := by
  cases hb : Dk.fine keep
  · have e : D.crash keep = (2, D) := by unfold Dk.crash; rw [if_neg (by rw [hb]; simp)]
    rw [e]
    exact (crash_bad b mb D L keep v w h hk hb).mono fun e w' ⟨h1, h2⟩ => ⟨h1, by rw [← h2]; exact DkTo.same h (Below.refl _ _)⟩
  · have e : (D.crash keep).1 = 0 := by unfold Dk.crash; rw [if_pos hb]
    rw [e]
    exact crash_ok b mb D L M N keep v w h hi hM hk hap hb hwf
theorem rcrash_all (g : Nat) (vF : Value) (D : Dk) (L : List Rf) (M : Nat) (N : Int) (keep : List Int) (v : Value) (w : World) (h : RDk w g vF D L) (hi : DkI D M N) (hM : M ≤ 100000) (hk : Row w v 1 keep.length (keep.map (Value.int .i64))) (hap : keep ≠ [] → ∀ y, fpR g vF L y → v.ownBlock ≠ some y) (hwf : ∀ x ∈ keep, x ≤ 9223372036854775807) :
    Calls Try.prog 53 #[ptr g, v] w fun e w' => e = .returned (.int .i64 (D.crash keep).1) ∧ RdTo w w' g vF L (D.crash keep).2 := by
  cases hb : Dk.fine keep
  · have e : D.crash keep = (2, D) := by unfold Dk.crash; rw [if_neg (by rw [hb]; simp)]
    rw [e]
    exact (rcrash_bad g vF D L keep v w h hk hb).mono fun e w' ⟨h1, h2⟩ => ⟨h1, by rw [← h2]; exact RdTo.same h (Below.refl _ _)⟩
  · have e : (D.crash keep).1 = 0 := by unfold Dk.crash; rw [if_pos hb]
    rw [e]
    exact rcrash_ok g vF D L M N keep v w h hi hM hk hap hb hwf
theorem od_make (ho : Od X wx w0 w b D) (gd : Good D M N) (s : ByteArray) (hs : s.size ≤ maxLen) : Calls Try.prog 10 #[ptr b, .string s] w fun e w' => e = .returned (.int .i64 (D.make s).1) ∧ Od X wx w0 w' b (D.make s).2 := ho.run (fun mb L h hf => make_any b mb D L M N s w h gd.i gd.m (by have := gd.n; omega) hs)
theorem td_make (ho : Tw X wx w0 w b g D E) (gd : Good D M N) (s : ByteArray) (hs : s.size ≤ maxLen) : Calls Try.prog 10 #[ptr b, .string s] w fun e w' => e = .returned (.int .i64 (D.make s).1) ∧ Tw X wx w0 w' b g (D.make s).2 E := ho.run1 (fun mb L h hf => make_any b mb D L M N s w h gd.i gd.m (by have := gd.n; omega) hs)
theorem tr_make (ho : Tw X wx w0 w b g D E) (gd : Good E M N) (s : ByteArray) (hs : s.size ≤ maxLen) : Calls Try.prog 46 #[ptr g, .string s] w fun e w' => e = .returned (.int .i64 (E.make s).1) ∧ Tw X wx w0 w' b g D (E.make s).2 := ho.run2 (fun vF L h hf => rmake_any g vF E L M N s w h gd.i gd.m (by have := gd.n; omega) hs)
theorem od_append (ho : Od X wx w0 w b D) (gd : Good D M N) (s : ByteArray) (hs : s.size ≤ maxLen) (v : Value) (l : List UInt8) (hrd : Rd w v l) (hl : l.length ≤ 2000) (hap : l ≠ [] → ∀ k, v.ownBlock = some k → X k ∨ k < w0.heap.size) : Calls Try.prog 11 #[ptr b, .string s, v] w fun e w' => e = .returned (.int .i64 (D.append s l).1) ∧ Od X wx w0 w' b (D.append s l).2 := ho.run (fun mb L h hf => append_any b mb D L M N s v l w h gd.i (by have := gd.n; omega) hs hrd (fun hne k hk e => (hap hne k e).elim (hf k hk).2 (fun h2 => absurd (hf k hk).1 (by omega))))
theorem td_append (ho : Tw X wx w0 w b g D E) (gd : Good D M N) (s : ByteArray) (hs : s.size ≤ maxLen) (v : Value) (l : List UInt8) (hrd : Rd w v l) (hl : l.length ≤ 2000) (hap : l ≠ [] → ∀ k, v.ownBlock = some k → X k ∨ k < w0.heap.size) : Calls Try.prog 11 #[ptr b, .string s, v] w fun e w' => e = .returned (.int .i64 (D.append s l).1) ∧ Tw X wx w0 w' b g (D.append s l).2 E := ho.run1 (fun mb L h hf => append_any b mb D L M N s v l w h gd.i (by have := gd.n; omega) hs hrd (fun hne k hk e => (hap hne k e).elim (hf k hk).2 (fun h2 => absurd (hf k hk).1 (by omega))))
theorem tr_append (ho : Tw X wx w0 w b g D E) (gd : Good E M N) (s : ByteArray) (hs : s.size ≤ maxLen) (v : Value) (l : List UInt8) (hrd : Rd w v l) (hl : l.length ≤ 2000) (hap : l ≠ [] → ∀ k, v.ownBlock = some k → X k ∨ k < w0.heap.size) : Calls Try.prog 47 #[ptr g, .string s, v] w fun e w' => e = .returned (.int .i64 (E.append s l).1) ∧ Tw X wx w0 w' b g D (E.append s l).2 := ho.run2 (fun vF L h hf => rappend_any g vF E L M N s v l w h gd.i gd.m (by have := gd.n; omega) hs hrd (fun hne k hk e => (hap hne k e).elim (hf k hk).2 (fun h2 => absurd (hf k hk).1 (by omega))))
theorem od_sync (ho : Od X wx w0 w b D) (gd : Good D M N) (s : ByteArray) (hs : s.size ≤ maxLen) : Calls Try.prog 12 #[ptr b, .string s] w fun e w' => e = .returned (.int .i64 (D.sync s).1) ∧ Od X wx w0 w' b (D.sync s).2 := ho.run (fun mb L h hf => sync_any b mb D L M N s w h gd.i (by have := gd.n; omega) hs)
theorem td_sync (ho : Tw X wx w0 w b g D E) (gd : Good D M N) (s : ByteArray) (hs : s.size ≤ maxLen) : Calls Try.prog 12 #[ptr b, .string s] w fun e w' => e = .returned (.int .i64 (D.sync s).1) ∧ Tw X wx w0 w' b g (D.sync s).2 E := ho.run1 (fun mb L h hf => sync_any b mb D L M N s w h gd.i (by have := gd.n; omega) hs)
theorem tr_sync (ho : Tw X wx w0 w b g D E) (gd : Good E M N) (s : ByteArray) (hs : s.size ≤ maxLen) : Calls Try.prog 48 #[ptr g, .string s] w fun e w' => e = .returned (.int .i64 (E.sync s).1) ∧ Tw X wx w0 w' b g D (E.sync s).2 := ho.run2 (fun vF L h hf => rsync_any g vF E L M N s w h gd.i gd.m (by have := gd.n; omega) hs)
theorem od_remove (ho : Od X wx w0 w b D) (gd : Good D M N) (s : ByteArray) (hs : s.size ≤ maxLen) : Calls Try.prog 26 #[ptr b, .string s] w fun e w' => e = .returned (.int .i64 (D.remove s).1) ∧ Od X wx w0 w' b (D.remove s).2 := ho.run (fun mb L h hf => remove_any b mb D L M N s w h gd.i (by have := gd.n; omega) hs)
theorem td_remove (ho : Tw X wx w0 w b g D E) (gd : Good D M N) (s : ByteArray) (hs : s.size ≤ maxLen) : Calls Try.prog 26 #[ptr b, .string s] w fun e w' => e = .returned (.int .i64 (D.remove s).1) ∧ Tw X wx w0 w' b g (D.remove s).2 E := ho.run1 (fun mb L h hf => remove_any b mb D L M N s w h gd.i (by have := gd.n; omega) hs)
theorem tr_remove (ho : Tw X wx w0 w b g D E) (gd : Good E M N) (s : ByteArray) (hs : s.size ≤ maxLen) : Calls Try.prog 50 #[ptr g, .string s] w fun e w' => e = .returned (.int .i64 (E.remove s).1) ∧ Tw X wx w0 w' b g D (E.remove s).2 := ho.run2 (fun vF L h hf => rremove_any g vF E L M N s w h gd.i gd.m (by have := gd.n; omega) hs)
theorem od_rename (ho : Od X wx w0 w b D) (gd : Good D M N) (s : ByteArray) (hs : s.size ≤ maxLen) (t : ByteArray) (ht : t.size ≤ maxLen) : Calls Try.prog 19 #[ptr b, .string s, .string t] w fun e w' => e = .returned (.int .i64 (D.rename s t).1) ∧ Od X wx w0 w' b (D.rename s t).2 := ho.run (fun mb L h hf => rename_any b mb D L M N s t w h gd.i gd.m (by have := gd.n; omega) hs ht)
theorem td_rename (ho : Tw X wx w0 w b g D E) (gd : Good D M N) (s : ByteArray) (hs : s.size ≤ maxLen) (t : ByteArray) (ht : t.size ≤ maxLen) : Calls Try.prog 19 #[ptr b, .string s, .string t] w fun e w' => e = .returned (.int .i64 (D.rename s t).1) ∧ Tw X wx w0 w' b g (D.rename s t).2 E := ho.run1 (fun mb L h hf => rename_any b mb D L M N s t w h gd.i gd.m (by have := gd.n; omega) hs ht)
theorem tr_rename (ho : Tw X wx w0 w b g D E) (gd : Good E M N) (s : ByteArray) (hs : s.size ≤ maxLen) (t : ByteArray) (ht : t.size ≤ maxLen) : Calls Try.prog 49 #[ptr g, .string s, .string t] w fun e w' => e = .returned (.int .i64 (E.rename s t).1) ∧ Tw X wx w0 w' b g D (E.rename s t).2 := ho.run2 (fun vF L h hf => rrename_any g vF E L M N s t w h gd.i gd.m (by have := gd.n; omega) hs ht)
theorem od_fuse (ho : Od X wx w0 w b D) (n : Int) : Calls Try.prog 16 #[ptr b, .int .i64 n] w fun e w' => e = .returned (.int .i64 (D.setFuse n).1) ∧ Od X wx w0 w' b (D.setFuse n).2 := ho.run (fun mb L h hf => fuse_any b mb D L w h n)
theorem td_fuse (ho : Tw X wx w0 w b g D E) (n : Int) : Calls Try.prog 16 #[ptr b, .int .i64 n] w fun e w' => e = .returned (.int .i64 (D.setFuse n).1) ∧ Tw X wx w0 w' b g (D.setFuse n).2 E := ho.run1 (fun mb L h hf => fuse_any b mb D L w h n)
theorem tr_fuse (ho : Tw X wx w0 w b g D E) (n : Int) : Calls Try.prog 51 #[ptr g, .int .i64 n] w fun e w' => e = .returned (.int .i64 (E.setFuse n).1) ∧ Tw X wx w0 w' b g D (E.setFuse n).2 := ho.run2 (fun vF L h hf => rfuse_any g vF E L w h n)
theorem od_turn (ho : Od X wx w0 w b D) (gd : Good D M N) (s : ByteArray) (hs : s.size ≤ maxLen) (n : Int) (c : UInt8) : Calls Try.prog 22 #[ptr b, .string s, .int .i64 n, .int .u8 (c.toNat : Int)] w fun e w' => e = .returned (.int .i64 (D.turn s n c).1) ∧ Od X wx w0 w' b (D.turn s n c).2 := ho.run (fun mb L h hf => turn_any b mb D L M N s n c w h gd.i hs)
theorem td_turn (ho : Tw X wx w0 w b g D E) (gd : Good D M N) (s : ByteArray) (hs : s.size ≤ maxLen) (n : Int) (c : UInt8) : Calls Try.prog 22 #[ptr b, .string s, .int .i64 n, .int .u8 (c.toNat : Int)] w fun e w' => e = .returned (.int .i64 (D.turn s n c).1) ∧ Tw X wx w0 w' b g (D.turn s n c).2 E := ho.run1 (fun mb L h hf => turn_any b mb D L M N s n c w h gd.i hs)
theorem tr_turn (ho : Tw X wx w0 w b g D E) (gd : Good E M N) (s : ByteArray) (hs : s.size ≤ maxLen) (n : Int) (c : UInt8) : Calls Try.prog 54 #[ptr g, .string s, .int .i64 n, .int .u8 (c.toNat : Int)] w fun e w' => e = .returned (.int .i64 (E.turn s n c).1) ∧ Tw X wx w0 w' b g D (E.turn s n c).2 := ho.run2 (fun vF L h hf => rturn_any g vF E L M N s n c w h gd.i hs)
theorem od_crash (ho : Od X wx w0 w b D) (gd : Good D M N) (keep : List Int) (v : Value) (hk : Row w v 1 keep.length (keep.map (Value.int .i64))) (hwf : ∀ x ∈ keep, x ≤ 9223372036854775807) (hap : keep ≠ [] → ∀ k, v.ownBlock = some k → X k ∨ k < w0.heap.size) : Calls Try.prog 13 #[ptr b, v] w fun e w' => e = .returned (.int .i64 (D.crash keep).1) ∧ Od X wx w0 w' b (D.crash keep).2 := ho.run (fun mb L h hf => crash_all b mb D L M N keep v w h gd.i gd.m hk (fun hne k hk e => (hap hne k e).elim (hf k hk).2 (fun h2 => absurd (hf k hk).1 (by omega))) hwf)
theorem td_crash (ho : Tw X wx w0 w b g D E) (gd : Good D M N) (keep : List Int) (v : Value) (hk : Row w v 1 keep.length (keep.map (Value.int .i64))) (hwf : ∀ x ∈ keep, x ≤ 9223372036854775807) (hap : keep ≠ [] → ∀ k, v.ownBlock = some k → X k ∨ k < w0.heap.size) : Calls Try.prog 13 #[ptr b, v] w fun e w' => e = .returned (.int .i64 (D.crash keep).1) ∧ Tw X wx w0 w' b g (D.crash keep).2 E := ho.run1 (fun mb L h hf => crash_all b mb D L M N keep v w h gd.i gd.m hk (fun hne k hk e => (hap hne k e).elim (hf k hk).2 (fun h2 => absurd (hf k hk).1 (by omega))) hwf)
theorem tr_crash (ho : Tw X wx w0 w b g D E) (gd : Good E M N) (keep : List Int) (v : Value) (hk : Row w v 1 keep.length (keep.map (Value.int .i64))) (hwf : ∀ x ∈ keep, x ≤ 9223372036854775807) (hap : keep ≠ [] → ∀ k, v.ownBlock = some k → X k ∨ k < w0.heap.size) : Calls Try.prog 53 #[ptr g, v] w fun e w' => e = .returned (.int .i64 (E.crash keep).1) ∧ Tw X wx w0 w' b g D (E.crash keep).2 := ho.run2 (fun vF L h hf => rcrash_all g vF E L M N keep v w h gd.i gd.m hk (fun hne k hk e => (hap hne k e).elim (hf k hk).2 (fun h2 => absurd (hf k hk).1 (by omega))) hwf)
theorem od_free (ho : Od X wx w0 w b D) : Calls Try.prog 27 #[ptr b] w fun e w' => e = .returned (.int .i64 0) ∧ Od X wx w0 w' b D.free := ho.run (fun mb L h hf => free_any b mb D L w h)
theorem td_free (ho : Tw X wx w0 w b g D E) : Calls Try.prog 27 #[ptr b] w fun e w' => e = .returned (.int .i64 0) ∧ Tw X wx w0 w' b g D.free E := ho.run1 (fun mb L h hf => free_any b mb D L w h)
theorem tr_free (ho : Tw X wx w0 w b g D E) : Calls Try.prog 52 #[ptr g] w fun e w' => e = .returned (.int .i64 0) ∧ Tw X wx w0 w' b g D E.free := ho.run2 (fun vF L h hf => rfree_any g vF E L w h)
theorem od_on (ho : Od X wx w0 w b D) : Calls Try.prog 17 #[ptr b] w fun e w' => e = .returned (.bool (!D.off)) ∧ w = w' := by
  obtain ⟨mb, L, h, -⟩ := ho.d
  exact on_any b mb D L w h
theorem od_steps (ho : Od X wx w0 w b D) : Calls Try.prog 28 #[ptr b] w fun e w' => e = .returned (.int .i64 D.steps) ∧ w = w' := by
  obtain ⟨mb, L, h, -⟩ := ho.d
  exact steps_any b mb D L w h
theorem od_left (ho : Od X wx w0 w b D) (gd : Good D M N) : Calls Try.prog 18 #[ptr b] w fun e w' => e = .returned (.int .i64 D.leftP) ∧ Below w.heap.size w w' := by
  obtain ⟨mb, L, h, -⟩ := ho.d
  exact leftP_any b mb D L w h M N gd.i
theorem tr_left (ho : Tw X wx w0 w b g D E) (gd : Good E M N) : Calls Try.prog 58 #[ptr g] w fun e w' => e = .returned (.int .i64 E.leftP) ∧ w = w' := by
  obtain ⟨mb, L, vF, L2, -, h, -⟩ := ho.d
  exact rleftP_any g vF E L2 w h M N gd.i
theorem od_names (ho : Od X wx w0 w b D) (gd : Good D M N) : Calls Try.prog 21 #[ptr b] w fun e w' => ∃ v, e = .returned v ∧ w'.ownsRow w.heap.size 9 1 v D.names.length (D.names.map Value.string) ∧ Below w.heap.size w w' := by
  obtain ⟨mb, L, h, -⟩ := ho.d
  exact names_any b mb D L w h gd.i.rise (Nat.le_trans gd.i.len gd.m)
theorem tr_names (ho : Tw X wx w0 w b g D E) (gd : Good E M N) : Calls Try.prog 57 #[ptr g] w fun e w' => ∃ v, e = .returned v ∧ w'.ownsRow w.heap.size 9 1 v E.names.length (E.names.map Value.string) ∧ Below w.heap.size w w' := by
  obtain ⟨mb, L, vF, L2, -, h, -⟩ := ho.d
  exact rnames_any g vF E L2 w h (by rw [h.len]; exact Nat.le_trans gd.i.len gd.m)
theorem od_synced (ho : Od X wx w0 w b D) (s : ByteArray) (hs : s.size ≤ maxLen) : Calls Try.prog 15 #[ptr b, .string s] w fun e w' => e = .returned (.tuple #[.int .i64 (D.synced s).2, .int .i64 (D.synced s).1]) ∧ Below w.heap.size w w' := by
  obtain ⟨mb, L, h, -⟩ := ho.d
  exact synced_any b mb D L w h s hs
theorem tr_synced (ho : Tw X wx w0 w b g D E) (gd : Good E M N) (s : ByteArray) (hs : s.size ≤ maxLen) : Calls Try.prog 55 #[ptr g, .string s] w fun e w' => e = .returned (.tuple #[.int .i64 (E.synced s).2, .int .i64 (E.synced s).1]) ∧ Below w.heap.size w w' := by
  obtain ⟨mb, L, vF, L2, -, h, -⟩ := ho.d
  exact rsynced_any g vF E L2 w h s hs gd.i.rise
theorem od_read (ho : Od X wx w0 w b D) (gd : Good D M N) (s : ByteArray) (hs : s.size ≤ maxLen) : Calls Try.prog 14 #[ptr b, .string s] w fun e w' => ∃ v, e = .returned (.tuple #[v, .int .i64 (D.read s).1]) ∧ Fresh w.heap.size w' v (D.read s).2 ∧ Below w.heap.size w w' := by
  obtain ⟨mb, L, h, -⟩ := ho.d
  exact read_any b mb D L w h s hs M N gd.i
theorem tr_read (ho : Tw X wx w0 w b g D E) (gd : Good E M N) (s : ByteArray) (hs : s.size ≤ maxLen) : Calls Try.prog 56 #[ptr g, .string s] w fun e w' => ∃ v, e = .returned (.tuple #[v, .int .i64 (E.read s).1]) ∧ Fresh w.heap.size w' v (E.read s).2 ∧ Below w.heap.size w w' := by
  obtain ⟨mb, L, vF, L2, -, h, -⟩ := ho.d
  exact rread_any g vF E L2 w h s hs gd.i.rise M N gd.i
end
end Go.Proofs.Ytgcemddobcjpnaa
namespace Go.Proofs.Ytgcemddobcjpnaa
open Go.RowKit

/-- a slice of slices of numbers reads as these lists -/
def Rows2 (w : World) (v : Value) (zss : List (List Int)) : Prop :=
  ∃ vs : List Value, vs.length = zss.length ∧ Row w v 1 zss.length vs ∧ ∀ i (h : i < zss.length) u, vs[i]? = some u → Row w u 1 zss[i].length (zss[i].map (Value.int .i64))

theorem Rows2.below {w w' : World} {v : Value} {zss : List (List Int)} (h : Rows2 w v zss) (hb : Below w.heap.size w w') : Rows2 w' v zss := by
  obtain ⟨vs, h1, h2, h3⟩ := h
  exact ⟨vs, h1, h2.below hb, fun i hi u hu => (h3 i hi u hu).below hb⟩

theorem Row.num {w : World} {p : Option Addr} {n c : Nat} {k : IntKind} {zs : List Int} (h : Row w (.slice p n c) 1 zs.length (zs.map (Value.int k))) {i : Nat} (hi : i < zs.length) : ∃ b o, p = some ⟨b, o, none⟩ ∧ w.cell? ⟨b, o + i, none⟩ = some (.int k zs[i]) := by
  obtain ⟨p', c', hv, h1, h2, h3, h4, h5, h6⟩ := h
  simp only [Value.slice.injEq] at hv
  obtain ⟨rfl, -, rfl⟩ := hv
  rcases h6 with h6 | ⟨b, o, rfl, ha⟩
  · have : zs = [] := by simpa using h6
    subst this; simp at hi
  · exact ⟨b, o, rfl, ha i _ (by simp [hi])⟩

/-- the outer slice, and where its rows lie -/
theorem Rows2.parts {w : World} {v : Value} {zss : List (List Int)} (h : Rows2 w v zss) :
    ∃ p c, v = .slice p zss.length c ∧ zss.length ≤ c ∧ c ≤ maxLen ∧ ∀ i (hi : i < zss.length), ∃ b o p' c', p = some ⟨b, o, none⟩ ∧ w.cell? ⟨b, o + i, none⟩ = some (.slice p' zss[i].length c') ∧ Row w (.slice p' zss[i].length c') 1 zss[i].length (zss[i].map (Value.int .i64)) := by
  obtain ⟨vs, h1, ⟨p, c, hv, h2, h3, h4, h5, h6, h7⟩, h8⟩ := h
  refine ⟨p, c, hv, h2, h3, fun i hi => ?_⟩
  have hi' : i < vs.length := by omega
  have hr := h8 i hi vs[i] (by simp [hi'])
  rcases h7 with h7 | ⟨b, o, hp, ha⟩
  · rw [h7] at hi'; simp at hi'
  · have hc := ha i vs[i] (by simp [hi'])
    obtain ⟨p', c', hu, hr2⟩ := hr
    rw [hu] at hc
    exact ⟨b, o, p', c', hp, hc, ⟨p', c', rfl, hr2⟩⟩

/-- the same, of a slice value in parts -/
theorem Rows2.rowAt {w : World} {p : Option Addr} {n c : Nat} {zss : List (List Int)} (h : Rows2 w (.slice p n c) zss) {i : Nat} (hi : i < zss.length) :
    ∃ b o p' c', p = some ⟨b, o, none⟩ ∧ w.cell? ⟨b, o + i, none⟩ = some (.slice p' zss[i].length c') ∧ Row w (.slice p' zss[i].length c') 1 zss[i].length (zss[i].map (Value.int .i64)) := by
  obtain ⟨p2, c2, e, -, -, hat⟩ := h.parts
  simp only [Value.slice.injEq] at e
  obtain ⟨rfl, -, rfl⟩ := e
  exact hat i hi


/-- a block whole, as a row -/
theorem row_block {w : World} {g : Nat} {us : List Value} {e : TypeId} {fr : Nat × Nat} (hg : w.heap[g]? = some (.cells us.toArray e fr)) (hm : us.length ≤ maxLen) (h1 : ∀ u ∈ us, u.oneCell' = true) : Row w (.slice (some ⟨g, 0, none⟩) us.length us.length) 1 us.length us := by
  refine ⟨some ⟨g, 0, none⟩, us.length, rfl, Nat.le_refl _, hm, by simp, h1, by simp, .inr ⟨g, 0, rfl, fun j u hj => ?_⟩⟩
  rw [cell_of_row w g (0 + j) us.toArray e fr hg]
  simpa using hj
theorem rows2_lit {w : World} {g : Nat} {vs : List Value} {zss : List (List Int)} {e : TypeId} {fr : Nat × Nat} (hg : w.heap[g]? = some (.cells vs.toArray e fr)) (hl : vs.length = zss.length) (hm : zss.length ≤ maxLen) (h1 : ∀ u ∈ vs, u.oneCell' = true)
    (hr : ∀ i (h : i < zss.length) u, vs[i]? = some u → Row w u 1 zss[i].length (zss[i].map (Value.int .i64))) : Rows2 w (.slice (some ⟨g, 0, none⟩) zss.length zss.length) zss := by
  refine ⟨vs, hl, ?_, hr⟩
  have := row_block hg (by omega) h1
  rw [hl] at this
  exact this
end Go.Proofs.Ytgcemddobcjpnaa
namespace Go.Proofs.Ytgcemddobcjpnaa
open Go.RowKit

abbrev ea : ByteArray := ⟨#[97]⟩
theorem ea_len : ea.size ≤ maxLen := by decide
def NoX (_ : Nat) : Prop := False
abbrev z70 : List UInt8 := List.replicate 70 0
abbrev dk0 : Dk := ⟨100, [], false, 0, false, 0⟩
abbrev dk1 : Dk := ⟨100, [⟨ea, [], 0⟩], false, 0, false, 1⟩
abbrev dk2 : Dk := ⟨100, [⟨ea, z70, 0⟩], false, 0, false, 3⟩
abbrev dk3 : Dk := ⟨100, [⟨ea, z70, 70⟩], false, 0, false, 4⟩
theorem dk_m : dk0.make ea = (0, dk1) := by kernel_rfl
theorem dk_a : dk1.append ea z70 = (0, dk2) := by kernel_rfl
theorem dk_s : dk2.sync ea = (0, dk3) := by kernel_rfl
theorem dk0_I : DkI dk0 0 0 := ⟨List.Pairwise.nil, by simp, by simp, by decide, by decide, by decide, by decide, by decide⟩
theorem dk1_I : DkI dk1 1 1 := by have := dk0_I.make ea; rwa [dk_m] at this
theorem dk2_I : DkI dk2 1 71 := by have := dk1_I.append ea z70; rwa [dk_a] at this
theorem dk3_I : DkI dk3 1 72 := by have := dk2_I.sync ea; rwa [dk_s] at this
theorem dk_left : dk3.leftP = 30 := by kernel_rfl
theorem goodOf {D : Dk} {M : Nat} {N : Int} (h : DkI D M N) (hm : M ≤ 100000) (hn : N + 2000 < 4611686018427387904) : Good D M N := ⟨h, hm, hn⟩
theorem Od.new {w0 w w' : World} {b mb : Nat} {D : Dk} (h0 : Below w0.heap.size w0 w) (h : PDk w' b mb D []) (hb : w.heap.size ≤ b) (hm : w.heap.size ≤ mb) (hbl : Below w.heap.size w w') : Od NoX w' w0 w' b D :=
  ⟨⟨mb, [], h, fun k hk => ⟨(by
    have := h0.size
    rcases hk with hk | hk | ⟨p, hp, -⟩
    · omega
    · omega
    · cases hp), fun hx => hx⟩⟩, fun k hk => hk.elim, Frp.refl _ _, below_and h0 hbl⟩
theorem od_new (r : Int) (w0 w : World) (h0 : Below w0.heap.size w0 w) (h1 : 0 ≤ r) (h2 : r ≤ 1073741824) : Calls Try.prog 9 #[.int .i64 r] w fun e w' => ∃ b, e = .returned (.tuple #[ptr b, .int .i64 0]) ∧ w.heap.size ≤ b ∧ Od NoX w' w0 w' b ⟨r, [], false, 0, false, 0⟩ ∧ Below w.heap.size w w' :=
  (new_ok r w h1 h2).mono fun e w' ⟨b, mb, he, hb, hm, hp, hbl⟩ => ⟨b, he, hb, Od.new h0 hp hb hm hbl, hbl⟩
/-- blocks are no longer watched -/
theorem Od.free_ {X : Nat → Prop} {wx w0 w : World} {b : Nat} {D : Dk} (h : Od X wx w0 w b D) : Od NoX w w0 w b D := by
  obtain ⟨mb, L, h1, h2⟩ := h.d
  exact ⟨⟨mb, L, h1, fun k hk => ⟨(h2 k hk).1, fun hx => hx⟩⟩, fun k hk => hk.elim, Frp.refl _ _, h.bel⟩
/-- a row that was just made is lent -/
theorem od_append_new {wx w0 wa w : World} {b : Nat} {D : Dk} {M : Nat} {N : Int} (ho : Od NoX wx w0 wa b D) (hb : Below wa.heap.size wa w) (gd : Good D M N) (s : ByteArray) (hs : s.size ≤ maxLen) (g n c : Nat) (l : List UInt8) (hrd : Rd w (.slice (some ⟨g, 0, none⟩) n c) l) (hl : l.length ≤ 2000) (hg : wa.heap.size ≤ g) (hlt : g < w.heap.size) :
    Calls Try.prog 11 #[ptr b, .string s, .slice (some ⟨g, 0, none⟩) n c] w fun e w' => e = .returned (.int .i64 (D.append s l).1) ∧ Od NoX w' w0 w' b (D.append s l).2 := by
  have h1 := ho.watch hb (fun k => k = g) (fun k hk => by rw [hk]; exact hlt) (fun k hk => .inr (by rw [hk]; exact hg))
  exact (od_append h1 gd s hs _ l hrd hl (fun _ k hk => .inl (by simpa [Value.ownBlock] using hk.symm))).mono fun e w' ⟨he, ho⟩ => ⟨he, ho.free_⟩
theorem make_bytes (m : Nat) (hm : m ≤ 100) (w : World) : (Instr.makeSlice 29 (.int .i64 (m : Int)) (.int .i64 (m : Int))).run Try.prog w = .ok (.slice (some ⟨w.heap.size, 0, none⟩) m m) (w.alloc (.cells (List.replicate m (B 0)).toArray 5)) := by
  obtain ⟨i, hi, hz0, hz1, hz2⟩ := info_parts Try.uinfo
  have h := run_make (P := Try.prog) w 29 5 i _ Try.underlying29 hi hz0 .i64 .i64 (m : Int) (m : Int) (by omega) (Int.le_refl _) (by rw [hz2]; omega) (by omega)
  rw [Int.toNat_natCast, hz1] at h
  have e : (madeCells (Value.cells (.int .u8 0)) (m * 1)).toList = List.replicate m (B 0) := by rw [Nat.mul_one]; exact toList_madeCells_one _ _
  have e2 : madeCells (Value.cells (.int .u8 0)) (m * 1) = (List.replicate m (B 0)).toArray := by rw [← e]
  rw [e2] at h
  exact h
theorem made_rd (w : World) (m : Nat) (hm : m ≤ 100) : Rd (w.alloc (.cells (List.replicate m (B 0)).toArray 5)) (.slice (some ⟨w.heap.size, 0, none⟩) m m) (List.replicate m 0) := by
  have hb := Blk.made w (List.replicate m (B 0)) 5
  have := row_block (us := List.replicate m (B 0)) hb (by simp; unfold maxLen; omega) (by simp [Value.oneCell'])
  unfold Rd
  simpa [List.map_replicate] using this

set_option maxRecDepth 100000 in
set_option maxHeartbeats 2000000 in
theorem dlives (w : World) :
    Calls Try.prog 8 #[] w fun e w' => e = .returned (.bool true) ∧ Below w.heap.size w w' := by
  have HMK : ∀ w2 : World, (Instr.makeSlice 29 (.int .i64 70) (.int .i64 70)).run Try.prog w2 = .ok (.slice (some ⟨w2.heap.size, 0, none⟩) 70 70) (w2.alloc (.cells (List.replicate 70 (B 0)).toArray 5)) := fun w2 => make_bytes 70 (by decide) w2
  obtain ⟨zz, hzz⟩ : ∃ zz, zz = (List.replicate 70 (B 0)).toArray := ⟨_, rfl⟩
  rw [← hzz] at HMK
  have HRD : Hid (∀ w2 : World, Rd (w2.alloc (.cells zz 5)) (.slice (some ⟨w2.heap.size, 0, none⟩) 70 70) z70) := Lib.hid (fun w2 => by rw [hzz]; exact made_rd w2 70 (by decide))
  clear hzz
  go_enter Try.func8, Try.ntmps8
  go_wp2_with (first
    | (go_at_call 9; refine (od_new 100 w _ (Below.refl _ _) (by decide) (by decide)).mono ?_; rintro e w1 ⟨b, rfl, -, ho, -⟩; have HO1 := Lib.hid ho; clear ho)
    | (go_at_call 10; refine (od_make HO1.out (goodOf dk0_I (by decide) (by decide)) ea ea_len).mono ?_; rw [dk_m]; rintro e w2 ⟨rfl, ho⟩; have HO2 := Lib.hid ho; clear ho)
    | (go_at_call 11; refine (od_append_new HO2.out.free_ (below_alloc _ _) (goodOf dk1_I (by decide) (by decide)) ea ea_len w2.heap.size 70 70 z70 (HRD.out w2) (by decide) (Nat.le_refl _) (by simp)).mono ?_; rw [dk_a]; rintro e w3 ⟨rfl, ho⟩; have HO3 := Lib.hid ho; clear ho)
    | (go_at_call 12; refine (od_sync HO3.out (goodOf dk2_I (by decide) (by decide)) ea ea_len).mono ?_; rw [dk_s]; rintro e w4 ⟨rfl, ho⟩; have HO4 := Lib.hid ho; clear ho)
    | (go_at_call 28; refine (od_steps HO4.out).mono ?_; rintro e w5 ⟨rfl, rfl⟩)
    | (go_at_call 17; refine (od_on HO4.out).mono ?_; rintro e w5 ⟨rfl, rfl⟩)
    | (go_at_call 18; refine (od_left HO4.out (goodOf dk3_I (by decide) (by decide))).mono ?_; rw [dk_left]; rintro e w5 ⟨rfl, hb⟩; have HB5 := Lib.hid hb; clear hb))
  go_ret
  exact ⟨rfl, below_and HO4.out.bel HB5.out⟩
end Go.Proofs.Ytgcemddobcjpnaa
