/- The document's disk: Append (written by genrd7.py). -/
import Derived.Test.YtgcemddobcjpnaaRd6
import Derived.Test.YtgcemddobcjpnaaDk9
import Derived.Test.YtgcemddobcjpnaaCutH
namespace Go.Proofs.Ytgcemddobcjpnaa
open Go.RowKit

theorem sub_src {w : World} {q : Option Addr} {c at_ e : Nat} {l : List UInt8} (h : Rd w (.slice q l.length c) l) (ha : at_ ≤ e) (he : e ≤ l.length) : Src Try.prog 1 29 (.slice (if c = at_ then q else Option.map (fun x => x.add at_) q) (e - at_) (c - at_)) (e - at_) ((l.map B).drop at_ |>.take (e - at_)) w := by
  have h1 : Row w (.slice q e c) 1 e ((l.map B).take (e * 1)) := row_first (size := 1) h (by simpa using he)
  have h2 := row_rest h1 ha
  simp only [Nat.mul_one] at h2
  rw [List.drop_take] at h2
  exact h2.src Try.underlying29
/-- between two rounds -/
structure RaR (g : Nat) (vF : Value) (M : Nat) (N : Int) (L : List Rf) (X : Int × Dk) (s : List UInt8) (k : Nat) (v : Value) (l : List UInt8) (w0 w : World) (n at_ : Nat) (D : Dk) (L' : List Rf) (r : Rf) : Prop where
  rd : RDk w g vF D L'
  inv : DkI D M (N + l.length - (l.drop at_).length)
  fits : Dk.bytes D.F + ((l.drop at_).length : Int) ≤ D.room
  find : kfnd Rf.key L' s = some r
  pl : kpl Rf.key L' s = k
  fuel : (l.drop at_).length < n
  eq : Dk.more n D r.f (l.drop at_) = X
  st : RSt w0 w g vF vF L L'
  src : Rd w v l
  ap : l ≠ [] → ∀ y, fpR g vF L' y → v.ownBlock ≠ some y
  atl : at_ ≤ l.length + 64
section
variable {g : Nat} {vF : Value} {M : Nat} {N : Int} {L : List Rf} {X : Int × Dk} {s : List UInt8} {k : Nat} {v : Value} {l : List UInt8} {w0 w w' : World} {n at_ : Nat} {D : Dk} {L' : List Rf} {r : Rf}

theorem RaR.row (h : RaR g vF M N L X s k v l w0 w n at_ D L' r) : ∃ q c pv pc, vF = .slice (some ⟨q, 0, none⟩) L'.length c ∧ r.v = .slice pv r.f.b.length pc ∧ k < L'.length := by
  obtain ⟨hk, he⟩ := kfnd_place (h.rd.rise h.inv.rise) h.find
  rw [h.pl] at hk
  obtain ⟨q, c, hq, -⟩ := h.rd.at hk
  obtain ⟨pv, pc, hv, -, -⟩ := own_slice (h.rd.body r (kfnd_mem h.find).1)
  exact ⟨q, c, pv, pc, hq, hv, hk⟩
theorem RaR.cells (h : RaR g vF M N L X s k v l w0 w n at_ D L' r) {q : Nat} {c : Nat} {pv : Option Addr} {pc : Nat} (hv : vF = .slice (some ⟨q, 0, none⟩) L'.length c) (hr : r.v = .slice pv r.f.b.length pc) {w6 : World} {D1 : Dk} (h6 : RDk w6 g vF D1 L') :
    w6.cell? ⟨g, 1, none⟩ = some (.slice (some ⟨q, 0, none⟩) L'.length c) ∧ w6.cell? ⟨q, k * 3 + 1, none⟩ = some (.slice pv r.f.b.length pc) ∧ w6.frozen? ⟨q, k * 3 + 1, none⟩ = false := by
  obtain ⟨hk, he⟩ := kfnd_place (h.rd.rise h.inv.rise) h.find
  simp only [h.pl] at hk he
  obtain ⟨q2, c2, e, -, -, e1, -⟩ := h6.at hk
  have h7 := h6.row
  rw [hv] at e h7
  simp only [Value.slice.injEq, Option.some.injEq, Addr.mk.injEq, and_true, true_and] at e
  obtain ⟨rfl, rfl⟩ := e
  rw [he] at e1
  exact ⟨by rw [← hv]; exact h6.blk.cell (j := 1) rfl, by rw [← hr]; exact e1, own_free h7 _⟩
/-- behind a round -/
theorem RaR.next {w5 w6 : World} {v6 : Value} (h : RaR g vF M N L X s k v l w0 w (n + 1) at_ D L' r) (hlt : at_ < l.length) (hm : D.may = true) {q c : Nat} (hv : vF = .slice (some ⟨q, 0, none⟩) L'.length c)
    (h5 : RDk w5 g vF D.stepped L') (s5 : RSt w w5 g vF vF L' L') (hb : Below w5.heap.size w5 w6) (f6 : w6.ownsRow w5.heap.size 5 1 v6 (r.f.b ++ (l.drop at_).take 64).length ((r.f.b ++ (l.drop at_).take 64).map B)) :
    RaR g vF M N L X s k v l w0 (w6.setCell ⟨q, k * 3 + 1, none⟩ v6) n (at_ + 64) (D.stepped.addB r.f ((l.drop at_).take 64)) (L'.set k ⟨{ r.f with b := r.f.b ++ (l.drop at_).take 64 }, v6⟩) ⟨{ r.f with b := r.f.b ++ (l.drop at_).take 64 }, v6⟩ := by
  have hr := h.inv.rise
  obtain ⟨hk, he⟩ := kfnd_place (h.rd.rise hr) h.find
  simp only [h.pl] at hk he
  have hne : l.drop at_ ≠ [] := fun e => by
    have : (l.drop at_).length = 0 := by rw [e]; rfl
    rw [List.length_drop] at this
    omega
  have hln : l ≠ [] := fun e => by rw [e] at hlt; simp at hlt
  have hkey := (kfnd_mem h.find).2
  have hfk : kfnd Fl.key D.stepped.F r.f.key = some r.f := by
    have := h.rd.find r.f.key
    have h2 : kfnd Rf.key L' r.f.key = some r := by rw [show r.f.key = s from hkey]; exact h.find
    rw [h2] at this
    exact this
  have hs := h.inv.stepped hm
  obtain ⟨x, hx⟩ : ∃ x, x = (l.drop at_).take 64 := ⟨_, rfl⟩
  have hcut : x.length + (l.drop (at_ + 64)).length = (l.drop at_).length := by rw [hx, ← List.drop_drop, List.length_take, List.length_drop (i := 64)]; omega
  have hpos : 1 ≤ x.length := by
    have : (l.drop at_).length ≠ 0 := fun e => hne (List.eq_nil_of_length_eq_zero e)
    rw [hx, List.length_take]; omega
  have hfit : Dk.bytes D.F + (x.length : Int) ≤ D.room := by have := h.fits; omega
  rw [← hx] at f6 ⊢
  have h6 := h5.kept hb
  have hset := h6.setAt (i := k) (j := 1) (u := v6) (x := ⟨{ r.f with b := r.f.b ++ x }, v6⟩) (D' := D.stepped.addB r.f x) hk (by omega) (by rw [he]; rfl) hv (own_mono f6 (Nat.zero_le _)) (by
    have := put_set h6 hr h.find (f := { r.f with b := r.f.b ++ x }) hkey
    rw [h.pl] at this
    exact this) rfl
  have hq : fpR g vF L' q := .inr (.inl (by rw [hv]; rfl))
  have hfr : Frp (fpR g vF L') w (w6.setCell ⟨q, k * 3 + 1, none⟩ v6) := (s5.fr.next hb).set (p := ⟨q, k * 3 + 1, none⟩) hq _
  have hst : RSt w (w6.setCell ⟨q, k * 3 + 1, none⟩ v6) g vF vF L' (L'.set k ⟨{ r.f with b := r.f.b ++ x }, v6⟩) := ⟨hfr, fun y hy => by
    rcases fpR_set hy with h1 | h1
    · exact .inl h1
    · exact .inr (Nat.le_trans s5.fr.size (own_lo f6 h1))⟩
  have hinv := hs.addB (f := r.f) hfk x hfit
  have hkl : kpl Rf.key (L'.set k ⟨{ r.f with b := r.f.b ++ x }, v6⟩) s = k := by
    have h1 := h.pl
    have e : ∀ (L1 L2 : List Rf), L1.map Rf.key = L2.map Rf.key → kpl Rf.key L1 s = kpl Rf.key L2 s := fun L1 L2 hh => by
      have h2 := kpl_map (key := Rf.key) (key' := id) (f := Rf.key) (fun _ => rfl) L1 s
      have h3 := kpl_map (key := Rf.key) (key' := id) (f := Rf.key) (fun _ => rfl) L2 s
      rw [← h2, ← h3, hh]
    rw [e _ L' ?_]
    · exact h1
    · rw [List.map_set]
      apply List.ext_getElem (by simp)
      intro j h2 h3
      rw [List.getElem_set]
      split
      · next e2 =>
        subst e2
        rw [List.getElem_map, he]
        rfl
      · rfl
  refine ⟨hset, ?_, ?_, ?_, hkl, ?_, ?_, h.st.trans hst, rd_frp h.src hfr (fun y hy hq => h.ap hln y hq hy), fun _ y hy e => ?_, by omega⟩
  · exact hinv.mono (Nat.le_refl _) (by omega)
  · rw [bytes_addB hs (f := r.f) hfk]
    show Dk.bytes D.F + _ + _ ≤ D.room
    have := h.fits
    omega
  · have := kfnd_of (key := Rf.key) ((hset.rise hinv.rise).apart) (e := ⟨{ r.f with b := r.f.b ++ x }, v6⟩) (List.mem_set hk _)
    rw [show Rf.key ⟨{ r.f with b := r.f.b ++ x }, v6⟩ = s from hkey] at this
    exact this
  · have := h.fuel; omega
  · rw [← h.eq, more_yes hne hm, List.drop_drop, ← hx]
  · rcases hst.new y hy with h1 | h1
    · exact h.ap hln y h1 e
    · obtain ⟨b2, e2, h3⟩ := rd_blk h.src hln
      rw [e] at e2
      cases e2
      omega
end

section
variable (g : Nat) (vF : Value) (D : Dk) (L : List Rf) (M : Nat) (N : Int) (s : ByteArray) (v : Value) (l : List UInt8) (w : World) (h : RDk w g vF D L) (hi : DkI D M N) (hM : M ≤ 100000) (hN : N + l.length < 4611686018427387904) (hs : s.size ≤ maxLen) (hrd : Rd w v l) (hap : l ≠ [] → ∀ y, fpR g vF L y → v.ownBlock ≠ some y)
include h hi hs
set_option maxRecDepth 100000 in
set_option maxHeartbeats 2000000 in
theorem rappend_no (hno : D.ask [s] = 0 → D.get s = none) : Calls Try.prog 47 #[ptr g, .string s, v] w fun e w' => e = .returned (.int .i64 (D.append s l).1) ∧ RdTo w w' g vF L (D.append s l).2 := by
  have hb0 := below_alloc w (.cells #[.string s] 9)
  have HB0 := Lib.hid hb0
  have h0 := h.kept hb0
  have H := Lib.hid h
  have hr := hi.rise
  by_cases ha : D.ask [s] = 0
  · have HA := Lib.hid (rask0 [s] _ h0 (row1r w s 9) (by simpa using hs) ha)
    have hg := hno ha
    have hp : kfnd Rf.key L s.data.toList = none := by
      cases hq : kfnd Rf.key L s.data.toList with
      | none => rfl
      | some p => rw [h.get_some hq] at hg; cases hg
    have HF : Hid (D.append s l = (6, D)) := Lib.hid (by unfold Dk.append; rw [if_neg (by rw [ha]; simp), hg])
    have HP := Lib.hid (place_no h0 hr hp)
    clear h h0 hi hs hr ha hp hb0 hg hno
    go_enter Try.func47, Try.ntmps47
    go_wp2_with (first
      | (go_at_call 63; refine HA.out.mono ?_; rintro e w3 ⟨rfl, rfl⟩)
      | (go_at_call 64; refine HP.out.mono ?_; rintro e w3 ⟨rfl, rfl⟩))
    go_ret
    rw [HF.out]
    exact ⟨rfl, RdTo.same H.out HB0.out⟩
  · have HA := Lib.hid (rasked_any g vF D L [s] _ _ h0 (row1r w s 9) (by simpa using hs))
    have HF : Hid (D.append s l = (D.ask [s], D)) := Lib.hid (by unfold Dk.append; rw [if_pos ha])
    obtain ⟨q, hq⟩ : ∃ q, q = D.ask [s] := ⟨_, rfl⟩
    rw [← hq] at ha HF HA
    have q0 : (q != 0) = true := by simpa using ha
    clear h h0 hi hs hr ha hq hb0 hno
    go_enter Try.func47, Try.ntmps47
    go_wp2_with (go_at_call 63; refine HA.out.mono ?_; rintro e w3 ⟨rfl, rfl⟩)
    go_ret
    rw [HF.out]
    exact ⟨rfl, RdTo.same H.out HB0.out⟩
include hrd
set_option maxRecDepth 100000 in
set_option maxHeartbeats 2000000 in
theorem rappend_full (ha : D.ask [s] = 0) (p : Rf) (hp : kfnd Rf.key L s.data.toList = some p) (hl : D.left < (l.length : Int)) : Calls Try.prog 47 #[ptr g, .string s, v] w fun e w' => e = .returned (.int .i64 8) ∧ RdTo w w' g vF L D := by
  obtain ⟨q, c, rfl, -, -, -⟩ := hrd.parts
  have hb0 := below_alloc w (.cells #[.string s] 9)
  have HB0 := Lib.hid hb0
  have h0 := h.kept hb0
  have H := Lib.hid h
  have hr := hi.rise
  have HA := Lib.hid (rask0 [s] _ h0 (row1r w s 9) (by simpa using hs) ha)
  have HP := Lib.hid (place_yes h0 hr hp)
  have HLF := Lib.hid (rleft_any g vF D L _ h0 M N hi)
  have i1 : decide (D.left < (l.length : Int)) = true := by simpa using hl
  obtain ⟨k, hkk⟩ : ∃ k, k = kpl Rf.key L s.data.toList := ⟨_, rfl⟩
  simp only [← hkk] at HP
  clear h h0 hi hs hr ha hp hb0 hrd hl hkk
  go_enter Try.func47, Try.ntmps47
  go_wp2_with (first
    | (go_at_call 63; refine HA.out.mono ?_; rintro e w3 ⟨rfl, rfl⟩)
    | (go_at_call 64; refine HP.out.mono ?_; rintro e w3 ⟨rfl, rfl⟩)
    | (go_at_call 67; refine HLF.out.mono ?_; rintro e w3 ⟨rfl, rfl⟩))
  go_ret
  exact ⟨rfl, RdTo.same H.out HB0.out⟩
end
set_option maxRecDepth 100000 in
set_option maxHeartbeats 8000000 in
theorem rappend_go (g : Nat) (vF : Value) (D : Dk) (L : List Rf) (M : Nat) (N : Int) (s : ByteArray) (v : Value) (l : List UInt8) (w : World) (h : RDk w g vF D L) (hi : DkI D M N) (hM : M ≤ 100000) (hN : N + l.length < 4611686018427387904) (hs : s.size ≤ maxLen) (hrd : Rd w v l) (hap : l ≠ [] → ∀ y, fpR g vF L y → v.ownBlock ≠ some y) (ha : D.ask [s] = 0) (p : Rf) (hp : kfnd Rf.key L s.data.toList = some p) (hl : ¬ D.left < (l.length : Int)) : Calls Try.prog 47 #[ptr g, .string s, v] w fun e w' => e = .returned (.int .i64 (Dk.more (l.length + 1) D p.f l).1) ∧ RdTo w w' g vF L (Dk.more (l.length + 1) D p.f l).2 := by
  obtain ⟨ix, hix, hz0, hz1, hz2⟩ := info_parts Try.uinfo
  obtain ⟨qv, cv, rfl, hcv, hmv, -⟩ := hrd.parts
  have hml : maxLen ≤ 9223372036854775807 := by decide
  have hb0 := below_alloc w (.cells #[.string s] 9)
  have HB0 := Lib.hid hb0
  have h0 := h.kept hb0
  have hr := hi.rise
  have HA := Lib.hid (rask0 [s] _ h0 (row1r w s 9) (by simpa using hs) ha)
  have HP := Lib.hid (place_yes h0 hr hp)
  have HLF := Lib.hid (rleft_any g vF D L _ h0 M N hi)
  have i1 : decide (D.left < (l.length : Int)) = false := by simpa using hl
  obtain ⟨k, hkk⟩ : ∃ k, k = kpl Rf.key L s.data.toList := ⟨_, rfl⟩
  simp only [← hkk] at HP
  obtain ⟨X, hX⟩ : ∃ X, X = Dk.more (l.length + 1) D p.f l := ⟨_, rfl⟩
  rw [← hX]
  have lr : (l.length : Int) ≤ 1073741824 := by
    have h1 := hi.room
    have h2 : 0 ≤ Dk.bytes D.F := ksum_nonneg (fun e he => lenF_nn D.F e he)
    unfold Dk.left at hl
    omega
  have HN := Lib.hid hN
  have HRA : Hid (RaR g vF M N L X s.data.toList k (.slice qv l.length cv) l w (w.alloc (.cells #[.string s] 9)) (l.length + 1) 0 D L p) := Lib.hid ⟨h0, hi.mono (Nat.le_refl _) (by simp), by simp; unfold Dk.left at hl; omega, hp, hkk.symm, by simp, by simpa using hX.symm, RSt.of_below hb0, hrd.below hb0, hap, by omega⟩
  clear h h0 hi hs hr ha hp hb0 hrd hl hkk hX hap hM hN
  go_enter Try.func47, Try.ntmps47
  go_wp2_with (first
    | (go_at_call 63; refine HA.out.mono ?_; rintro e w3 ⟨rfl, rfl⟩)
    | (go_at_call 64; refine HP.out.mono ?_; rintro e w3 ⟨rfl, rfl⟩)
    | (go_at_call 67; refine HLF.out.mono ?_; rintro e w3 ⟨rfl, rfl⟩))
  go_loopw [10] (fun i wr => ∃ (n at_ : Nat) (D' : Dk) (L' : List Rf) (r : Rf), i = .int .i64 (at_ : Int) ∧ Hid (RaR g vF M N L X s.data.toList k (.slice qv l.length cv) l w wr n at_ D' L' r)) (fun i _ => l.length + 64 - (intOf i).toNat)
  case atStart => exact ⟨_, 0, _, _, _, rfl, HRA⟩
  case round =>
    obtain ⟨n, at_, D', L', r, rfl, HR⟩ := hrel
    have hat := HR.out.atl
    by_cases hlt : at_ < l.length
    · have i2 : (at_ : Int) < (l.length : Int) := by omega
      obtain ⟨n, rfl⟩ : ∃ n', n = n' + 1 := ⟨n - 1, by have := HR.out.fuel; omega⟩
      have HLT := Lib.hid hlt
      have HNB : Hid (N + (l.length : Int) - ((l.drop at_).length : Int) < 4611686018427387904) := Lib.hid (by have := HN.out; omega)
      rcases rcases_may D' with hm | hm
      · have HMY := Lib.hid hm
        have HST := Lib.hid (rstep_yes g vF D' L' M _ _ HR.out.rd HR.out.inv HNB.out hm)
        clear hm
        go_upto_region 14 with (go_at_call 65; refine HST.out.mono ?_; rintro e w5 ⟨rfl, h5, s5⟩; have H5 := Lib.hid h5; have S5 := Lib.hid s5; clear h5 s5)
        obtain ⟨q, c, pv, pc, hv, hrv, hk⟩ := HR.out.row
        have HKL := Lib.hid hk
        have HV := Lib.hid hv
        have HRV := Lib.hid hrv
        have HBL : Hid (r.f.b.length ≤ 1073741824) := Lib.hid (by
          have h1 : r.f ∈ D'.F := by rw [← HR.out.rd.eq]; exact List.mem_map_of_mem (kfnd_mem HR.out.find).1
          have h2 : (r.f.b.length : Int) ≤ D'.room := HR.out.inv.one_le h1
          have := HR.out.inv.room
          omega)
        obtain ⟨e, he⟩ : ∃ e, e = min (at_ + 64) l.length := ⟨_, rfl⟩
        have e1 : at_ ≤ e := by omega
        have e2 : e ≤ l.length := by omega
        have HE := Lib.hid he
        have hmn : min ((at_ : Int) + 64) (l.length : Int) = (e : Int) := by omega
        have HHSS : Hid (∀ w', Below w5.heap.size w5 w' → w'.cell? ⟨g, 1, none⟩ = some (.slice (some ⟨q, 0, none⟩) L'.length c) ∧ w'.cell? ⟨q, k * 3 + 1, none⟩ = some (.slice pv r.f.b.length pc)) := Lib.hid (fun w' hb => by
          have h1 := H5.out.kept hb
          have := HR.out.cells (w6 := w') hv hrv h1
          exact ⟨this.1, this.2.1⟩)
        have HSB : Hid (∀ w', Below w5.heap.size w5 w' → Src Try.prog 1 29 (.slice pv r.f.b.length pc) r.f.b.length (r.f.b.map B) w') := Lib.hid (fun w' hb => by
          have := Row.src Try.underlying29 (Fresh.rd (own_keep (H5.out.body r (kfnd_mem HR.out.find).1) hb))
          rw [hrv] at this
          exact this)
        have HSL : Hid (∀ w', Below w5.heap.size w5 w' → Rd w' (.slice qv l.length cv) l) := Lib.hid (fun w' hb => (rd_frp HR.out.src S5.out.fr (fun y hy hq => HR.out.ap (fun e => by have := HLT.out; rw [e] at this; simp at this) y hq hy)).below hb)
        have b0 : (0 : Int) ≤ (k : Int) := by omega
        have b1 : (k : Int) < (L'.length : Int) := by omega
        have b2 : (0 : Int) ≤ (at_ : Int) := by omega
        have b3 : (at_ : Int) ≤ (e : Int) := by omega
        have b4 : (e : Int) ≤ (l.length : Int) := by omega
        have b5 : (e : Int) ≤ (cv : Int) := by omega
        have u1 : IntKind.i64.wrap ((at_ : Int) + 64) = (at_ : Int) + 64 := i64_in (by omega)
        clear hv hrv hk he hlt
        refine wp_region_noPanic ?_
        refine wp_region_lastH (fun w' => w'.cell? ⟨g, 1, none⟩ = some (.slice (some ⟨q, 0, none⟩) L'.length c) ∧ w'.cell? ⟨q, k * 3 + 1, none⟩ = some (.slice pv r.f.b.length pc)) 26 rfl rfl (by kernel_rfl) (by kernel_rfl) (HHSS.out _ (below_drewN 1)) (fun hHeld => ?_)
        have HB1 : Hid (Below w5.heap.size w5 w5.drew) := Lib.hid (below_drewN 1)
        have hS1 : True := trivial
        obtain ⟨wd1, hwd⟩ : ∃ xq, xq = w5.drew := ⟨_, rfl⟩
        rw [← hwd] at hHeld HB1 ⊢
        clear hwd
        refine wpAnyH_take (i := 0) (v := ?v1) rfl (by kernel_rfl) (by kernel_rfl) (by kernel_rfl) (fun _ _ _ h => h) (Or.inl ⟨by rfl, ?hy1⟩) (by assumption) ?rest1
        case hy1 => (intro _ hSw; (try dsimp only at hSw); go_simp; (try with_reducible rfl))
        (try simp only [Act.put]); (try simp only [List.setIfInBounds_toArray]); (try simp only [List.set_cons_succ]); (try simp only [List.set_cons_zero])
        refine wpAnyH_take (i := 1) (v := ?v2) rfl (by kernel_rfl) (by kernel_rfl) (by kernel_rfl) (fun _ _ _ h => h) (Or.inl ⟨by rfl, ?hy2⟩) (by assumption) ?rest2
        case hy2 => (intro _ hSw; (try dsimp only at hSw); go_simp; (try with_reducible rfl))
        (try simp only [Act.put]); (try simp only [List.setIfInBounds_toArray]); (try simp only [List.set_cons_succ]); (try simp only [List.set_cons_zero])
        refine wpAnyH_take (i := 2) (v := ?v3) rfl (by kernel_rfl) (by kernel_rfl) (by kernel_rfl) (fun _ _ _ h => h) (Or.inl ⟨by rfl, ?hy3⟩) (by assumption) ?rest3
        case hy3 => (intro _ hSw; (try dsimp only at hSw); go_simp; (try with_reducible rfl))
        (try simp only [Act.put]); (try simp only [List.setIfInBounds_toArray]); (try simp only [List.set_cons_succ]); (try simp only [List.set_cons_zero])
        refine wpAnyH_take (i := 3) (v := ?v4) rfl (by kernel_rfl) (by kernel_rfl) (by kernel_rfl) (fun _ _ _ h => h) (Or.inl ⟨by rfl, ?hy4⟩) (by assumption) ?rest4
        case hy4 => (intro _ hSw; (try dsimp only at hSw); go_simp; (try with_reducible rfl))
        (try simp only [Act.put]); (try simp only [List.setIfInBounds_toArray]); (try simp only [List.set_cons_succ]); (try simp only [List.set_cons_zero])
        refine wpAnyH_take (i := 4) (v := ?v5) rfl (by kernel_rfl) (by kernel_rfl) (by kernel_rfl) (fun _ _ _ h => h) (Or.inl ⟨by rfl, ?hy5⟩) (by assumption) ?rest5
        case hy5 => (intro _ hSw; (try dsimp only at hSw); go_simp; (try with_reducible rfl))
        (try simp only [Act.put]); (try simp only [List.setIfInBounds_toArray]); (try simp only [List.set_cons_succ]); (try simp only [List.set_cons_zero])
        refine wpAnyH_take (i := 6) (v := ?v6) rfl (by kernel_rfl) (by kernel_rfl) (by kernel_rfl) (fun _ _ _ h => h) (Or.inl ⟨by rfl, ?hy6⟩) (by assumption) ?rest6
        case hy6 => (intro _ hSw; (try dsimp only at hSw); go_simp; (try with_reducible rfl))
        (try simp only [Act.put]); (try simp only [List.setIfInBounds_toArray]); (try simp only [List.set_cons_succ]); (try simp only [List.set_cons_zero])
        refine wpAnyH_take (i := 7) (v := ?v7) rfl (by kernel_rfl) (by kernel_rfl) (by kernel_rfl) (fun _ _ _ h => h) (Or.inl ⟨by rfl, ?hy7⟩) (by assumption) ?rest7
        case hy7 => (intro _ hSw; (try dsimp only at hSw); go_simp; (try with_reducible rfl))
        (try simp only [Act.put]); (try simp only [List.setIfInBounds_toArray]); (try simp only [List.set_cons_succ]); (try simp only [List.set_cons_zero])
        refine wpAnyH_take (i := 8) (v := ?v8) rfl (by kernel_rfl) (by kernel_rfl) (by kernel_rfl) (fun _ _ _ h => h) (Or.inl ⟨by rfl, ?hy8⟩) (by assumption) ?rest8
        case hy8 => (intro _ hSw; (try dsimp only at hSw); go_simp; (try with_reducible rfl))
        (try simp only [Act.put]); (try simp only [List.setIfInBounds_toArray]); (try simp only [List.set_cons_succ]); (try simp only [List.set_cons_zero])
        refine wpAnyH_take (i := 9) (v := ?v9) rfl (by kernel_rfl) (by kernel_rfl) (by kernel_rfl) (fun _ _ _ h => h) (Or.inl ⟨by rfl, ?hy9⟩) (by assumption) ?rest9
        case hy9 => (intro _ hSw; (try dsimp only at hSw); go_simp; (try with_reducible rfl))
        (try simp only [Act.put]); (try simp only [List.setIfInBounds_toArray]); (try simp only [List.set_cons_succ]); (try simp only [List.set_cons_zero])
        refine wpAnyH_take (i := 10) (v := ?v10) rfl (by kernel_rfl) (by kernel_rfl) (by kernel_rfl) (fun _ _ _ h => h) (Or.inl ⟨by rfl, ?hy10⟩) (by assumption) ?rest10
        case hy10 => (intro _ hSw; (try dsimp only at hSw); go_simp; (try with_reducible rfl))
        (try simp only [Act.put]); (try simp only [List.setIfInBounds_toArray]); (try simp only [List.set_cons_succ]); (try simp only [List.set_cons_zero])
        refine wpAnyH_take (i := 11) (v := ?v11) rfl (by kernel_rfl) (by kernel_rfl) (by kernel_rfl) (fun _ _ _ h => h) (Or.inl ⟨by rfl, ?hy11⟩) (by assumption) ?rest11
        case hy11 => (intro _ hSw; (try dsimp only at hSw); go_simp; (try with_reducible rfl))
        (try simp only [Act.put]); (try simp only [List.setIfInBounds_toArray]); (try simp only [List.set_cons_succ]); (try simp only [List.set_cons_zero])
        refine wpAnyH_take (i := 12) (v := ?v12) rfl (by kernel_rfl) (by kernel_rfl) (by kernel_rfl) (fun _ _ _ h => h) (Or.inl ⟨by rfl, ?hy12⟩) (by assumption) ?rest12
        case hy12 => (intro _ hSw; (try dsimp only at hSw); go_simp; (try with_reducible rfl))
        (try simp only [Act.put]); (try simp only [List.setIfInBounds_toArray]); (try simp only [List.set_cons_succ]); (try simp only [List.set_cons_zero])
        refine wpAnyH_take (i := 13) (v := ?v13) rfl (by kernel_rfl) (by kernel_rfl) (by kernel_rfl) (fun _ _ _ h => h) (Or.inl ⟨by rfl, ?hy13⟩) (by assumption) ?rest13
        case hy13 => (intro _ hSw; (try dsimp only at hSw); go_simp; (try with_reducible rfl))
        (try simp only [Act.put]); (try simp only [List.setIfInBounds_toArray]); (try simp only [List.set_cons_succ]); (try simp only [List.set_cons_zero])
        refine wpAnyH_take (i := 15) (v := ?v14) rfl (by kernel_rfl) (by kernel_rfl) (by kernel_rfl) (fun _ _ _ h => h) (Or.inl ⟨by rfl, ?hy14⟩) (by assumption) ?rest14
        case hy14 => (intro _ hSw; (try dsimp only at hSw); go_simp; (try with_reducible rfl))
        (try simp only [Act.put]); (try simp only [List.setIfInBounds_toArray]); (try simp only [List.set_cons_succ]); (try simp only [List.set_cons_zero])
        refine wpAnyH_take (i := 16) (v := ?v15) rfl (by kernel_rfl) (by kernel_rfl) (by kernel_rfl) (fun _ _ _ h => h) (Or.inl ⟨by rfl, ?hy15⟩) (by assumption) ?rest15
        case hy15 => (intro _ hSw; (try dsimp only at hSw); go_simp; (try with_reducible rfl))
        (try simp only [Act.put]); (try simp only [List.setIfInBounds_toArray]); (try simp only [List.set_cons_succ]); (try simp only [List.set_cons_zero])
        refine wpAnyH_take (i := 17) (v := ?v16) rfl (by kernel_rfl) (by kernel_rfl) (by kernel_rfl) (fun _ _ _ h => h) (Or.inl ⟨by rfl, ?hy16⟩) (by assumption) ?rest16
        case hy16 => (intro _ hSw; (try dsimp only at hSw); go_simp; (try with_reducible rfl))
        (try simp only [Act.put]); (try simp only [List.setIfInBounds_toArray]); (try simp only [List.set_cons_succ]); (try simp only [List.set_cons_zero])
        refine wpAnyH_take (i := 18) (v := ?v17) rfl (by kernel_rfl) (by kernel_rfl) (by kernel_rfl) (fun _ _ _ h => h) (Or.inl ⟨by rfl, ?hy17⟩) (by assumption) ?rest17
        case hy17 => (intro _ hSw; (try dsimp only at hSw); go_simp; (try with_reducible rfl))
        (try simp only [Act.put]); (try simp only [List.setIfInBounds_toArray]); (try simp only [List.set_cons_succ]); (try simp only [List.set_cons_zero])
        refine wpAnyH_take (i := 19) (v := ?v18) rfl (by kernel_rfl) (by kernel_rfl) (by kernel_rfl) (fun _ _ _ h => h) (Or.inl ⟨by rfl, ?hy18⟩) (by assumption) ?rest18
        case hy18 => (intro _ hSw; (try dsimp only at hSw); go_simp; (try with_reducible rfl))
        (try simp only [Act.put]); (try simp only [List.setIfInBounds_toArray]); (try simp only [List.set_cons_succ]); (try simp only [List.set_cons_zero])
        refine wpAnyH_take (i := 20) (v := ?v19) rfl (by kernel_rfl) (by kernel_rfl) (by kernel_rfl) (fun _ _ _ h => h) (Or.inl ⟨by rfl, ?hy19⟩) (by assumption) ?rest19
        case hy19 => (intro _ hSw; (try dsimp only at hSw); go_simp; (try with_reducible rfl))
        (try simp only [Act.put]); (try simp only [List.setIfInBounds_toArray]); (try simp only [List.set_cons_succ]); (try simp only [List.set_cons_zero])
        refine wpAnyH_take (i := 21) (v := ?v20) rfl (by kernel_rfl) (by kernel_rfl) (by kernel_rfl) (fun _ _ _ h => h) (Or.inl ⟨by rfl, ?hy20⟩) (by assumption) ?rest20
        case hy20 => (intro _ hSw; (try dsimp only at hSw); go_simp; (try with_reducible rfl))
        (try simp only [Act.put]); (try simp only [List.setIfInBounds_toArray]); (try simp only [List.set_cons_succ]); (try simp only [List.set_cons_zero])
        refine wpAnyH_take (i := 22) (v := ?v21) rfl (by kernel_rfl) (by kernel_rfl) (by kernel_rfl) (fun _ _ _ h => h) (Or.inl ⟨by rfl, ?hy21⟩) (by assumption) ?rest21
        case hy21 => (intro _ hSw; (try dsimp only at hSw); go_simp; (try with_reducible rfl))
        (try simp only [Act.put]); (try simp only [List.setIfInBounds_toArray]); (try simp only [List.set_cons_succ]); (try simp only [List.set_cons_zero])
        (try simp only [List.getElem_toArray]); (try simp only [List.getElem_cons_succ]); (try simp only [List.getElem_cons_zero]); (try simp only [List.setIfInBounds_toArray]); (try simp only [List.set_cons_succ, List.set_cons_zero])
        refine wpAnyH_ready (rs := [5]) (by kernel_rfl) (by simp) ?_
        refine (AllReadyH.cons rfl (fun K hK => ?_) AllReadyH.nil)
        (try simp only [List.getElem_toArray]); (try simp only [List.getElem_cons_succ]); (try simp only [List.getElem_cons_zero])
        go_simp
        obtain ⟨w2x, hw2⟩ : ∃ xq, xq = wd1.alloc (.cells #[] 5) := ⟨_, rfl⟩
        obtain ⟨z2, hz2⟩ : ∃ xq, xq = wd1.heap.size := ⟨_, rfl⟩
        have hn2 : Below wd1.heap.size wd1 w2x := by rw [hw2]; exact below_alloc _ _
        have hb2 : Below w5.heap.size w5 w2x := below_and HB1.out hn2
        have HB2 := Lib.hid hb2
        have HO2 : Hid (w2x.ownsRow w5.heap.size 5 1 (.slice (some ⟨z2, 0, none⟩) 0 0) 0 []) := Lib.hid (by rw [hw2, hz2]; exact World.ownsRow_made wd1 #[] 0 HB1.out.size (by decide) rfl)
        rw [← hw2, ← hz2]
        refine hK.out _ _ (HHSS.out _ hb2) (fun hS2 => ?_)
        clear hK K hb2 hw2 hz2 hn2 hS1
        (try simp only [Act.put]); (try simp only [List.setIfInBounds_toArray]); (try simp only [List.set_cons_succ]); (try simp only [List.set_cons_zero])
        refine wpAnyH_ready (rs := [14]) (by kernel_rfl) (by simp) ?_
        refine (AllReadyH.cons rfl (fun K hK => ?_) AllReadyH.nil)
        refine step_app rfl (.tmp 45) (.tmp 53) 29 29 rfl w5.heap.size 5 ix (.int .u8 0) 1 1 Try.underlying29 hix hz0 hz1 hz2 rfl (.slice (some ⟨z2, 0, none⟩) 0 0) 0 [] (by rfl) HO2.out (.slice pv r.f.b.length pc) r.f.b.length (r.f.b.map B) (by rfl) (HSB.out _ HB2.out) (by have := HBL.out; have := HE.out; unfold maxLen; omega) (by have := HBL.out; have := HE.out; omega) HB2.out.size ?_
        intro v3 w3x ho3 hg3 hn3 hk3
        have HO3 : Hid (w3x.ownsRow w5.heap.size 5 1 v3 r.f.b.length (r.f.b.map B)) := Lib.hid (by simpa using ho3)
        have hb3 : Below w5.heap.size w5 w3x := HB2.out.trans ((Fr.of_grown hg3).below (by intro y hy; exact own_lo HO2.out (Option.mem_toList.1 hy)) HB2.out.size)
        have HB3 := Lib.hid hb3
        refine hK.out _ _ (HHSS.out _ hb3) (fun hS3 => ?_)
        clear hK K hb3 ho3 hg3 hn3 hk3 hS2
        (try simp only [Act.put]); (try simp only [List.setIfInBounds_toArray]); (try simp only [List.set_cons_succ]); (try simp only [List.set_cons_zero])
        refine wpAnyH_ready (rs := [23]) (by kernel_rfl) (by simp) ?_
        refine (AllReadyH.cons rfl (fun K hK => ?_) AllReadyH.nil)
        refine step_app rfl (.tmp 54) (.tmp 62) 29 29 rfl w5.heap.size 5 ix (.int .u8 0) 1 1 Try.underlying29 hix hz0 hz1 hz2 rfl v3 r.f.b.length (r.f.b.map B) (by rfl) HO3.out (.slice (if cv = at_ then qv else Option.map (fun x => x.add at_) qv) (e - at_) (cv - at_)) (e - at_) ((l.map B).drop at_ |>.take (e - at_)) (by rfl) (sub_src (HSL.out _ HB3.out) e1 e2) (by have := HBL.out; have := HE.out; unfold maxLen; omega) (by have := HBL.out; have := HE.out; omega) HB3.out.size ?_
        intro v4 w4x ho4 hg4 hn4 hk4
        have HO4 : Hid (w4x.ownsRow w5.heap.size 5 1 v4 (r.f.b.length + (e - at_)) (r.f.b.map B ++ ((l.map B).drop at_ |>.take (e - at_)))) := Lib.hid (by exact ho4)
        have hb4 : Below w5.heap.size w5 w4x := HB3.out.trans ((Fr.of_grown hg4).below (by intro y hy; exact own_lo HO3.out (Option.mem_toList.1 hy)) HB3.out.size)
        have HB4 := Lib.hid hb4
        refine hK.out _ _ (HHSS.out _ hb4) (fun hS4 => ?_)
        clear hK K hb4 ho4 hg4 hn4 hk4 hS3
        (try simp only [Act.put]); (try simp only [List.setIfInBounds_toArray]); (try simp only [List.set_cons_succ]); (try simp only [List.set_cons_zero])
        refine wpAnyH_take (i := 24) (v := ?v22) rfl (by kernel_rfl) (by kernel_rfl) (by kernel_rfl) (fun _ _ _ h => h) (Or.inl ⟨by rfl, ?hy22⟩) (by assumption) ?rest22
        case hy22 => (intro _ hSw; (try dsimp only at hSw); go_simp; (try with_reducible rfl))
        (try simp only [Act.put]); (try simp only [List.setIfInBounds_toArray]); (try simp only [List.set_cons_succ]); (try simp only [List.set_cons_zero])
        refine wpAnyH_take (i := 25) (v := ?v23) rfl (by kernel_rfl) (by kernel_rfl) (by kernel_rfl) (fun _ _ _ h => h) (Or.inl ⟨by rfl, ?hy23⟩) (by assumption) ?rest23
        case hy23 => (intro _ hSw; (try dsimp only at hSw); go_simp; (try with_reducible rfl))
        (try simp only [Act.put]); (try simp only [List.setIfInBounds_toArray]); (try simp only [List.set_cons_succ]); (try simp only [List.set_cons_zero])
        refine wpAnyH_done (by kernel_rfl) ?_ _
        refine LastQ.start rfl ?_
        clear hS4 hHeld
        have d1 := (HHSS.out _ HB4.out).2
        have f1 := (HR.out.cells HV.out HRV.out (H5.out.kept HB4.out)).2.2
        have HO8 := HO4
        have hlen : (r.f.b ++ (l.drop at_).take 64).length = r.f.b.length + (e - at_) := by have := HE.out; rw [List.length_append, List.length_take, List.length_drop]; omega
        have htake : List.take (e - at_) (List.drop at_ (l.map B)) = ((l.drop at_).take 64).map B := by
          rw [← List.map_drop, ← List.map_take]
          congr 1
          have h1 := HE.out
          rcases Nat.le_total (at_ + 64) l.length with h2 | h2
          · rw [show e - at_ = 64 by omega]
          · rw [List.take_of_length_le (by rw [List.length_drop]; omega), List.take_of_length_le (by rw [List.length_drop]; omega)]
        have ho8 := HO8.out
        rw [htake, ← List.map_append, ← hlen] at ho8
        have HNX := Lib.hid (HR.out.next HLT.out HMY.out HV.out H5.out S5.out HB4.out ho8)
        clear hlen htake ho8
        obtain ⟨p8, c8, hv8, -, -⟩ := own_slice HO8.out
        subst hv8
        generalize (if cv = at_ then qv else Option.map (fun x => x.add at_) qv) = pp
        go_wp2
        refine NoPanic.normal ?_
        (try go_wp2)
        exact ⟨⟨n, at_ + 64, _, _, _, by simp, HNX⟩, by simp [intOf]; omega⟩
      · have HMY := Lib.hid hm
        have HST := Lib.hid (rstep_no g vF D' L' _ HR.out.rd hm)
        have HEX : Hid (X = (10, D'.dead)) := Lib.hid (by rw [← HR.out.eq, more_no (fun e => absurd (List.drop_eq_nil_iff.1 e) (by omega)) hm])
        clear hm hlt
        go_wp2_with (go_at_call 65; refine HST.out.mono ?_; rintro e w5 ⟨rfl, h5, s5⟩; have H5 := Lib.hid h5; have S5 := Lib.hid s5; clear h5 s5)
        go_ret
        rw [HEX.out]
        exact ⟨rfl, vF, L', H5.out, HR.out.st.trans S5.out⟩
    · have HEX : Hid (X = (0, D')) := Lib.hid (by rw [← HR.out.eq, List.drop_of_length_le (by omega), more_nil])
      have i2 : ¬ (at_ : Int) < (l.length : Int) := by omega
      clear hlt
      go_wp2
      go_ret
      rw [HEX.out]
      exact ⟨rfl, vF, L', HR.out.rd, HR.out.st⟩
theorem rappend_any (g : Nat) (vF : Value) (D : Dk) (L : List Rf) (M : Nat) (N : Int) (s : ByteArray) (v : Value) (l : List UInt8) (w : World) (h : RDk w g vF D L) (hi : DkI D M N) (hM : M ≤ 100000) (hN : N + l.length < 4611686018427387904) (hs : s.size ≤ maxLen) (hrd : Rd w v l) (hap : l ≠ [] → ∀ y, fpR g vF L y → v.ownBlock ≠ some y) : Calls Try.prog 47 #[ptr g, .string s, v] w fun e w' => e = .returned (.int .i64 (D.append s l).1) ∧ RdTo w w' g vF L (D.append s l).2 := by
  by_cases ha : D.ask [s] = 0
  · cases hp : kfnd Rf.key L s.data.toList with
    | none => exact rappend_no g vF D L M N s v l w h hi hs (fun _ => h.get_none hp)
    | some p =>
      by_cases hl : D.left < (l.length : Int)
      · have e : D.append s l = (8, D) := by unfold Dk.append; rw [if_neg (by rw [ha]; simp), h.get_some hp]; simp only; rw [if_pos hl]
        rw [e]
        exact rappend_full g vF D L M N s v l w h hi hs hrd ha p hp hl
      · have e : D.append s l = Dk.more (l.length + 1) D p.f l := by unfold Dk.append; rw [if_neg (by rw [ha]; simp), h.get_some hp]; simp only; rw [if_neg hl]
        rw [e]
        exact rappend_go g vF D L M N s v l w h hi hM hN hs hrd hap ha p hp hl
  · exact rappend_no g vF D L M N s v l w h hi hs (fun h0 => absurd h0 ha)
end Go.Proofs.Ytgcemddobcjpnaa
