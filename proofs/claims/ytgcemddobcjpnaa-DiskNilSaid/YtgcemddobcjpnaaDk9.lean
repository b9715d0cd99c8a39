/- The program's disk: Append. -/
import Derived.Test.YtgcemddobcjpnaaDk8
namespace Go.Proofs.Ytgcemddobcjpnaa
open Go.RowKit

theorem rd_frp {Q : Nat → Prop} {w w' : World} {v : Value} {l : List UInt8} (h : Rd w v l) (hf : Frp Q w w') (hg : ∀ g, v.ownBlock = some g → ¬ Q g) : Rd w' v l := by
  obtain ⟨p, c, hv, h1, h2, h3, h4, h5, h6⟩ := h
  refine ⟨p, c, hv, h1, h2, h3, h4, h5, ?_⟩
  rcases h6 with h6 | ⟨b, o, hp, ha⟩
  · exact .inl h6
  · exact .inr ⟨b, o, hp, fun j u hj => cell_frp (ha j u hj) hf (hg b (by rw [hv, hp]; rfl))⟩
theorem rd_blk {w : World} {v : Value} {l : List UInt8} (h : Rd w v l) (hne : l ≠ []) : ∃ g, v.ownBlock = some g ∧ g < w.heap.size := by
  obtain ⟨p, c, rfl, -, -, h3⟩ := h.parts
  rcases h3 with h3 | ⟨b, o, rfl, h4⟩
  · exact absurd h3 hne
  · have hl : 0 < l.length := by
      have : l.length ≠ 0 := fun e => hne (List.eq_nil_of_length_eq_zero e)
      omega
    exact ⟨b, rfl, World.block_lt_of_cell? w _ (h4 0 hl)⟩
/-- the rest of a slice -/
theorem cutP_block {p : Option Addr} {n c k m d : Nat} {g : Nat} (h : (Value.slice (cutP p c k) m d).ownBlock = some g) : (Value.slice p n c).ownBlock = some g := by
  unfold cutP at h
  split at h
  · cases p <;> exact h
  · cases p with
    | none => simp [Value.ownBlock] at h
    | some a =>
      obtain ⟨b, o, s⟩ := a
      have e : ((⟨b, o, s⟩ : Addr).add k).block = b := by unfold Addr.add; split <;> rfl
      have h2 : some ((⟨b, o, s⟩ : Addr).add k).block = some g := h
      rw [e] at h2
      exact h2
theorem more_nil (n : Nat) (D : Dk) (f : Fl) : Dk.more n D f [] = (0, D) := by cases n <;> simp [Dk.more]
theorem more_yes {n : Nat} {D : Dk} {f : Fl} {l : List UInt8} (hl : l ≠ []) (hm : D.may = true) : Dk.more (n + 1) D f l = Dk.more n (D.stepped.addB f (l.take 64)) { f with b := f.b ++ l.take 64 } (l.drop 64) := by
  show (if l = [] then _ else _) = _
  rw [if_neg hl, if_pos hm]
theorem more_no {n : Nat} {D : Dk} {f : Fl} {l : List UInt8} (hl : l ≠ []) (hm : D.may = false) : Dk.more (n + 1) D f l = (10, D.dead) := by
  show (if l = [] then _ else _) = _
  rw [if_neg hl, if_neg (by rw [hm]; simp)]

/-- how long what is left is, as the box tells -/
def restLen (w : World) (B : Nat) : Nat := match w.cell? ⟨B, 0, none⟩ with
  | some (.slice _ n _) => n
  | _ => 0
theorem rest_of {w : World} {B : Nat} {q : Option Addr} {n c : Nat} {t : TypeId} (h : Blk w B [.slice q n c] t) : restLen w B = n := by
  unfold restLen
  rw [h.cell (j := 0) rfl]
/-- between two rounds -/
structure ApR (b mb : Nat) (M : Nat) (N : Int) (L : List Pf) (X : Int × Dk) (B F : Nat) (w0 w : World) (n : Nat) (D : Dk) (L' : List Pf) (p : Pf) (q : Option Addr) (c : Nat) (l : List UInt8) : Prop where
  pd : PDk w b mb D L'
  inv : DkI D M (N - l.length)
  fits : Dk.bytes D.F + (l.length : Int) ≤ D.room
  find : kfnd Pf.key L' p.key = some p
  fuel : l.length < n
  eq : Dk.more n D p.f l = X
  rd : Rd w (.slice q l.length c) l
  box : Blk w B [.slice q l.length c] 29
  fbox : Blk w F [ptr p.a] 66
  st : DSt w0 w b mb L L'
  ap : ∀ g, fpP b mb L' g → g ≠ B ∧ g ≠ F ∧ (l ≠ [] → (Value.slice q l.length c).ownBlock ≠ some g)
  rdb : l ≠ [] → (Value.slice q l.length c).ownBlock ≠ some B
  lo : w0.heap.size ≤ B
theorem ApR.kept {b mb M : Nat} {N : Int} {L : List Pf} {X : Int × Dk} {B F : Nat} {w0 w w' : World} {n : Nat} {D : Dk} {L' : List Pf} {p : Pf} {q : Option Addr} {c : Nat} {l : List UInt8} (h : ApR b mb M N L X B F w0 w n D L' p q c l) (hb : Below w.heap.size w w') : ApR b mb M N L X B F w0 w' n D L' p q c l :=
  ⟨h.pd.kept hb, h.inv, h.fits, h.find, h.fuel, h.eq, h.rd.below hb, h.box.kept hb, h.fbox.kept hb, h.st.trans (DSt.of_below hb), h.ap, h.rdb, h.lo⟩
/-- behind a step -/
theorem ApR.next {b mb M : Nat} {N : Int} {L : List Pf} {X : Int × Dk} {B F : Nat} {w0 w w' : World} {n : Nat} {D : Dk} {L' : List Pf} {p : Pf} {q : Option Addr} {c : Nat} {l : List UInt8} (h : ApR b mb M N L X B F w0 w (n + 1) D L' p q c l) (hne : l ≠ []) (hm : D.may = true) {v' : Value}
    (hpd : PDk w' b mb (D.stepped.addB p.f (l.take 64)) (kput Pf.key L' ⟨{ p.f with b := p.f.b ++ l.take 64 }, p.a, v'⟩)) (hst : DSt w w' b mb L' (kput Pf.key L' ⟨{ p.f with b := p.f.b ++ l.take 64 }, p.a, v'⟩)) :
    ApR b mb M N L X B F w0 (w'.setCell ⟨B, 0, none⟩ (.slice (cutP q c (min l.length 64)) (l.length - min l.length 64) (c - min l.length 64))) n (D.stepped.addB p.f (l.take 64)) (kput Pf.key L' ⟨{ p.f with b := p.f.b ++ l.take 64 }, p.a, v'⟩) ⟨{ p.f with b := p.f.b ++ l.take 64 }, p.a, v'⟩ (cutP q c (min l.length 64)) (c - min l.length 64) (l.drop 64) := by
  have hfk : kfnd Fl.key D.stepped.F p.f.key = some p.f := by
    have := h.pd.find p.f.key
    have h2 : kfnd Pf.key L' p.f.key = some p := h.find
    rw [h2] at this
    exact this
  have hpos : 1 ≤ (l.take 64).length := by
    have : l.length ≠ 0 := fun e => hne (List.eq_nil_of_length_eq_zero e)
    rw [List.length_take]; omega
  have hlt : (l.take 64).length + (l.drop 64).length = l.length := by rw [List.length_take, List.length_drop]; omega
  have hs := h.inv.stepped hm
  have hfit : Dk.bytes D.F + ((l.take 64).length : Int) ≤ D.room := by have := h.fits; omega
  have hapn : ∀ g, fpP b mb (kput Pf.key L' ⟨{ p.f with b := p.f.b ++ l.take 64 }, p.a, v'⟩) g → g ≠ B ∧ g ≠ F ∧ (Value.slice q l.length c).ownBlock ≠ some g := fun g hg => by
    rcases hst.new g hg with h1 | h1
    · exact ⟨(h.ap g h1).1, (h.ap g h1).2.1, (h.ap g h1).2.2 hne⟩
    · have h2 := h.box.lt
      have h3 := h.fbox.lt
      refine ⟨by omega, by omega, fun e => ?_⟩
      obtain ⟨g2, e2, h4⟩ := rd_blk h.rd hne
      rw [e] at e2
      cases e2
      omega
  have hfrB : Frp (fun k => k = B) w' (w'.setCell ⟨B, 0, none⟩ (.slice (cutP q c (min l.length 64)) (l.length - min l.length 64) (c - min l.length 64))) := (Frp.refl (fun k => k = B) w').set (p := ⟨B, 0, none⟩) rfl _
  have hmin : min l.length 64 ≤ l.length := Nat.min_le_left _ _
  have hdl : (l.drop 64).length = l.length - min l.length 64 := by rw [List.length_drop]; omega
  have hdr : l.drop (min l.length 64) = l.drop 64 := by
    rcases Nat.le_total l.length 64 with h1 | h1
    · rw [Nat.min_eq_left h1, List.drop_length, List.drop_of_length_le h1]
    · rw [Nat.min_eq_right h1]
  have hrd : Rd w' (.slice q l.length c) l := rd_frp h.rd hst.fr (fun g hg hq => (h.ap g hq).2.2 hne hg)
  have hbox := h.box.frp hst.fr (fun hq => (h.ap B hq).1 rfl)
  have hfbox := h.fbox.frp hst.fr (fun hq => (h.ap F hq).2.1 rfl)
  have hBF : F ≠ B := fun e => by
    have h1 := h.fbox
    rw [e] at h1
    exact absurd (blk_ty h1 h.box) (by decide)
  refine ⟨hpd.frp hfrB (fun k hk => (hapn k hk).1), ?_, ?_, ?_, ?_, ?_, ?_, ?_, ?_, ?_, ?_, ?_, ?_⟩
  · have := hs.addB (f := p.f) hfk (l.take 64) hfit
    exact this.mono (Nat.le_refl _) (by omega)
  · rw [bytes_addB hs (f := p.f) hfk]
    show Dk.bytes D.F + _ + _ ≤ D.room
    have := h.fits
    omega
  · exact kfnd_of (key := Pf.key) ((hpd.rise ((hs.addB (f := p.f) hfk (l.take 64) hfit).rise)).apart) (e := ⟨{ p.f with b := p.f.b ++ l.take 64 }, p.a, v'⟩) ((kput_mem L' _ _).2 (.inl rfl))
  · have := h.fuel
    omega
  · rw [← h.eq, more_yes hne hm]
  · have := rd_cut hrd hmin
    rw [hdr] at this
    rw [hdl]
    exact rd_frp this hfrB (fun g hg e => h.rdb hne (by rw [← e]; exact cutP_block hg))
  · rw [hdl]
    exact hbox.set 0 _
  · exact hfbox.frp hfrB hBF
  · have h2 := h.st.trans hst
    exact ⟨h2.fr.trans hfrB (fun x hx => .inr (by rw [hx]; exact h.lo)), h2.new⟩
  · intro g hg
    have := hapn g hg
    exact ⟨this.1, this.2.1, fun _ e => this.2.2 (cutP_block e)⟩
  · intro _ e
    exact h.rdb hne (cutP_block e)
  · exact h.lo

section
variable (b mb : Nat) (D : Dk) (L : List Pf) (M : Nat) (N : Int) (s : ByteArray) (v : Value) (l : List UInt8) (w : World) (h : PDk w b mb D L) (hi : DkI D M N) (hN : N + l.length < 4611686018427387904) (hs : s.size ≤ maxLen) (hrd : Rd w v l) (hap : l ≠ [] → ∀ g, fpP b mb L g → v.ownBlock ≠ some g)
include h hs hrd
set_option maxRecDepth 100000 in
set_option maxHeartbeats 2000000 in
theorem append_no (hno : D.ask [s] = 0 → D.get s = none) : Calls Try.prog 11 #[ptr b, .string s, v] w fun e w' => e = .returned (.int .i64 (D.append s l).1) ∧ DkTo w w' b mb L (D.append s l).2 := by
  obtain ⟨q, c, rfl, -, -, -⟩ := hrd.parts
  have H := Lib.hid h
  have hb1 := below_alloc w (.cells #[.slice q l.length c] 29)
  have h1 := h.kept hb1
  have HB1 := Lib.hid hb1
  by_cases ha : D.ask [s] = 0
  · have hg := hno ha
    have hp : kfnd Pf.key L s.data.toList = none := by
      cases hq : kfnd Pf.key L s.data.toList with
      | none => rfl
      | some p => rw [h.get_some hq] at hg; cases hg
    have HF : Hid (D.append s l = (6, D)) := Lib.hid (by unfold Dk.append; rw [if_neg (by rw [ha]; simp), hg])
    have HFI := Lib.hid (find_no b mb D L s _ h1 hs ha hp)
    clear h h1 hs ha hp hg hno hrd hb1
    go_enter Try.func11, Try.ntmps11
    go_wp2_with (go_at_call 36; refine HFI.out.mono ?_; rintro e w3 ⟨rfl, hb⟩; have HB3 := Lib.hid (below_and HB1.out hb); clear hb)
    go_ret
    rw [HF.out]
    exact ⟨rfl, DkTo.same H.out (below_and HB3.out (below_alloc _ _))⟩
  · have HF : Hid (D.append s l = (D.ask [s], D)) := Lib.hid (by unfold Dk.append; rw [if_pos ha])
    have HFI := Lib.hid (find_bad b mb D L s _ h1 hs ha)
    obtain ⟨q, hq⟩ : ∃ q, q = D.ask [s] := ⟨_, rfl⟩
    rw [← hq] at ha HF HFI
    have q0 : (q != 0) = true := by simpa using ha
    clear h h1 hs ha hq hno hrd hb1
    go_enter Try.func11, Try.ntmps11
    go_wp2_with (go_at_call 36; refine HFI.out.mono ?_; rintro e w3 ⟨rfl, hb⟩; have HB3 := Lib.hid (below_and HB1.out hb); clear hb)
    go_ret
    rw [HF.out]
    exact ⟨rfl, DkTo.same H.out (below_and HB3.out (below_alloc _ _))⟩
include hi
set_option maxRecDepth 100000 in
set_option maxHeartbeats 4000000 in
theorem append_full (ha : D.ask [s] = 0) (p : Pf) (hp : kfnd Pf.key L s.data.toList = some p) (hl : D.left < (l.length : Int)) : Calls Try.prog 11 #[ptr b, .string s, v] w fun e w' => e = .returned (.int .i64 8) ∧ DkTo w w' b mb L D := by
  obtain ⟨q, c, rfl, -, -, -⟩ := hrd.parts
  have H := Lib.hid h
  have hb1 := below_alloc w (.cells #[.slice q l.length c] 29)
  have h1 := h.kept hb1
  have HB1 := Lib.hid hb1
  have HX := Lib.hid (Blk.made w [.slice q l.length c] 29)
  have HI := Lib.hid hi
  have HFI := Lib.hid (find_yes b mb D L s _ h1 hs ha p hp)
  have i1 : decide (D.left < (l.length : Int)) = true := by simpa using hl
  clear h h1 hi hs ha hp hrd hb1
  go_enter Try.func11, Try.ntmps11
  go_upto_region 4 with (go_at_call 36; refine HFI.out.mono ?_; rintro e w3 ⟨rfl, hb⟩; have hb3 := below_and HB1.out hb; have HB3 := Lib.hid (below_and hb3 (below_alloc w3 (.cells #[ptr p.a] 66))); have HX3 := Lib.hid ((HX.out.kept hb).kept (below_alloc w3 (.cells #[ptr p.a] 66))); clear hb hb3)
  have q0 := Past.blk HX3.out (j := 0) rfl
  refine wp_region_past (by kernel_rfl) (by kernel_rfl) ?_
  repeat (go_big_quiet_step ((go_at_call 37; exact past_call (left_any b mb D L M N _ ((H.out.kept HB3.out).kept (Past.h _)) HI.out))))
  refine wpQuiet_nil ?_
  intro _ hw'
  obtain ⟨s', hw''⟩ := hw'
  subst hw''
  have HB6 := Lib.hid (below_and HB3.out s'.h)
  clear q0
  go_wp2
  go_ret
  exact ⟨rfl, DkTo.same H.out HB6.out⟩
include hN hap
set_option maxRecDepth 100000 in
set_option maxHeartbeats 4000000 in
theorem append_go (ha : D.ask [s] = 0) (p : Pf) (hp : kfnd Pf.key L s.data.toList = some p) (hl : ¬ D.left < (l.length : Int)) : Calls Try.prog 11 #[ptr b, .string s, v] w fun e w' => e = .returned (.int .i64 (Dk.more (l.length + 1) D p.f l).1) ∧ DkTo w w' b mb L (Dk.more (l.length + 1) D p.f l).2 := by
  obtain ⟨q, c, rfl, -, -, -⟩ := hrd.parts
  have H := Lib.hid h
  have hb1 := below_alloc w (.cells #[.slice q l.length c] 29)
  have h1 := h.kept hb1
  have HB1 := Lib.hid hb1
  have HX := Lib.hid (Blk.made w [.slice q l.length c] 29)
  have HI := Lib.hid hi
  have HN := Lib.hid hN
  have HFI := Lib.hid (find_yes b mb D L s _ h1 hs ha p hp)
  have i1 : decide (D.left < (l.length : Int)) = false := by simpa using hl
  obtain ⟨hmem, hkey⟩ := kfnd_mem hp
  obtain ⟨X, hX⟩ : ∃ X, X = Dk.more (l.length + 1) D p.f l := ⟨_, rfl⟩
  rw [← hX]
  have HAR : Hid (∀ w4 F, Below w.heap.size w w4 → Blk w4 w.heap.size [.slice q l.length c] 29 → Blk w4 F [ptr p.a] 66 → w.heap.size < F → ApR b mb M (N + l.length) L X w.heap.size F w w4 (l.length + 1) D L p q c l) := Lib.hid (fun w4 F hb hbx hfx hF => by
    refine ⟨h.kept hb, hi.mono (Nat.le_refl _) (by omega), ?_, by rw [hkey]; exact hp, by omega, hX.symm, hrd.below hb, hbx, hfx, DSt.of_below hb, fun g hg => ?_, fun hne e => ?_, Nat.le_refl _⟩
    · unfold Dk.left at hl; omega
    · have := h.lt hg
      exact ⟨by omega, by omega, fun hne => hap hne g hg⟩
    · obtain ⟨g, e1, e2⟩ := rd_blk hrd hne
      rw [e] at e1
      cases e1
      exact absurd e2 (Nat.lt_irrefl _))
  clear h h1 hi hs ha hp hrd hb1 hap hmem hkey hX hl hN
  go_enter Try.func11, Try.ntmps11
  go_upto_region 4 with (go_at_call 36; refine HFI.out.mono ?_; rintro e w3 ⟨rfl, hb⟩; have hb3 := below_and HB1.out hb; have HB3 := Lib.hid (below_and hb3 (below_alloc w3 (.cells #[ptr p.a] 66))); have HX3 := Lib.hid ((HX.out.kept hb).kept (below_alloc w3 (.cells #[ptr p.a] 66))); have HF3 := Lib.hid (Blk.made w3 [ptr p.a] 66); have HSZ : Hid (w.heap.size < w3.heap.size) := Lib.hid (by have h5 := hb.size; simp at h5; omega); clear hb hb3)
  have q0 := Past.blk HX3.out (j := 0) rfl
  refine wp_region_past (by kernel_rfl) (by kernel_rfl) ?_
  repeat (go_big_quiet_step ((go_at_call 37; exact past_call (left_any b mb D L M N _ ((H.out.kept HB3.out).kept (Past.h _)) HI.out))))
  refine wpQuiet_nil ?_
  intro _ hw'
  obtain ⟨s', hw''⟩ := hw'
  subst hw''
  obtain ⟨w6, h6, e6⟩ : ∃ w6, Below (w3.alloc (.cells #[ptr p.a] 66)).heap.size (w3.alloc (.cells #[ptr p.a] 66)) w6 ∧ w6 = s'.val := ⟨_, s'.h, rfl⟩
  rw [← e6]
  have HAP := Lib.hid (HAR.out w6 w3.heap.size (below_and HB3.out h6) (HX3.out.kept h6) (HF3.out.kept h6) HSZ.out)
  obtain ⟨F, hF⟩ : ∃ F, F = w3.heap.size := ⟨_, rfl⟩
  obtain ⟨B, hB⟩ : ∃ B, B = w.heap.size := ⟨_, rfl⟩
  rw [← hF, ← hB] at HAP
  rw [← hF, ← hB]
  clear q0 h6 e6 HAR hF hB HX3 HF3 HB3 i1
  go_wp2
  go_loopw [10] (fun _ wr => ∃ (n : Nat) (D' : Dk) (L' : List Pf) (p' : Pf) (q' : Option Addr) (c' : Nat) (l' : List UInt8), Hid (ApR b mb M (N + l.length) L X B F w wr n D' L' p' q' c' l') ∧ n ≤ l.length + 1) (fun _ wr => restLen wr B)
  case atStart => exact ⟨_, _, _, _, _, _, _, HAP, Nat.le_refl _⟩
  case round =>
    obtain ⟨n, D', L', p', q', c', l', HR, hn⟩ := hrel
    have x0 := HR.out.box.cell (j := 0) rfl
    by_cases hne : l' = []
    · subst hne
      have HE : Hid (X = (0, D')) := Lib.hid (by rw [← HR.out.eq, more_nil])
      go_wp2
      go_ret
      rw [HE.out]
      exact ⟨rfl, L', HR.out.pd, HR.out.st⟩
    · have HNE := Lib.hid hne
      have hpos : 0 < l'.length := by
        have : l'.length ≠ 0 := fun e => hne (List.eq_nil_of_length_eq_zero e)
        omega
      have i2 : (0 : Int) < (l'.length : Int) := by omega
      obtain ⟨n, rfl⟩ : ∃ n', n = n' + 1 := ⟨n - 1, by have := HR.out.fuel; omega⟩
      obtain ⟨k, hk⟩ : ∃ k, k = min l'.length 64 := ⟨_, rfl⟩
      have hmn : min (l'.length : Int) 64 = (k : Int) := by omega
      have k1 : k ≤ l'.length := by omega
      have k2 : k ≤ 64 := by omega
      have htk : l'.take k = l'.take 64 := by
        rw [hk]
        rcases Nat.le_total l'.length 64 with h1 | h1
        · rw [Nat.min_eq_left h1, List.take_length, List.take_of_length_le h1]
        · rw [Nat.min_eq_right h1]
      have HK := Lib.hid hk
      have HTK := Lib.hid htk
      have HW5 := Lib.hid (HR.out.kept (below_alloc wr (.cells #[.int .i64 (k : Int)] 3)))
      have HBN := Lib.hid (Blk.made wr [.int .i64 (k : Int)] 3)
      have HLTW : Hid (∀ g, fpP b mb L' g → g < wr.heap.size) := Lib.hid (fun g hg => HR.out.pd.lt hg)
      have HNB : Hid (N + (l.length : Int) - (l'.length : Int) < 4611686018427387904) := Lib.hid (by have := HN.out; omega)
      clear hne hk htk
      rcases may_cases D' with hm | hm
      · have HMY := Lib.hid hm
        have HEG := Lib.hid (Go.Proofs.enters_of Try.func38 (by kernel_rfl) rfl)
        have HST : Hid (∀ w5, ApR b mb M (N + l.length) L X B F w w5 (n + 1) D' L' p' q' c' l' → Blk w5 wr.heap.size [.int .i64 (k : Int)] 3 →
            Calls Try.prog 34 #[ptr b, .func (.func 38) #[] #[ptr F, ptr B, ptr wr.heap.size]] w5 fun e w' => e = .returned (.int .i64 0) ∧ ∃ v', PDk w' b mb (D'.stepped.addB p'.f (l'.take 64)) (kput Pf.key L' ⟨{ p'.f with b := p'.f.b ++ l'.take 64 }, p'.a, v'⟩) ∧ DSt w5 w' b mb L' (kput Pf.key L' ⟨{ p'.f with b := p'.f.b ++ l'.take 64 }, p'.a, v'⟩)) := Lib.hid (fun w5 hw5 hbn => by
          refine step_yes b mb D' L' M _ w5 hw5.pd hw5.inv HNB.out HMY.out _ _ (fun w' => ∃ v', PDk w' b mb (D'.stepped.addB p'.f (l'.take 64)) (kput Pf.key L' ⟨{ p'.f with b := p'.f.b ++ l'.take 64 }, p'.a, v'⟩) ∧ DSt w5 w' b mb L' (kput Pf.key L' ⟨{ p'.f with b := p'.f.b ++ l'.take 64 }, p'.a, v'⟩)) HEG.out (fun w1 h1 hf => ?_)
          have hmem : p'.f ∈ D'.F := by rw [← hw5.pd.eq]; exact List.mem_map_of_mem (kfnd_mem hw5.find).1
          have hone : (p'.f.b.length : Int) ≤ D'.room := hw5.inv.one_le hmem
          have hroom := hw5.inv.room
          have hap := hw5.ap
          have hbb := hap b (.inl rfl)
          have hblt := HLTW.out b (.inl rfl)
          have := append1 b mb F B wr.heap.size D'.stepped L' p' q' c' k l' w1 h1 hw5.inv.rise hw5.find (by omega) k1 k2 (rd_frp hw5.rd hf (fun g hg e => hbb.2.2 HNE.out (by rw [hg, e])))
            (cell_frp (hw5.fbox.cell (j := 0) rfl) hf (fun e => hbb.2.1 e.symm)) (cell_frp (hw5.box.cell (j := 0) rfl) hf (fun e => hbb.1 e.symm)) (cell_frp (hbn.cell (j := 0) rfl) hf (fun e => by simp only at e; omega)) (fun g hg => ⟨(hap g hg).2.1, (hap g hg).1, by have := HLTW.out g hg; omega⟩)
          rw [HTK.out] at this
          exact this.mono fun _ _ ⟨he, v', h2, h3⟩ => ⟨he, v', h2, h3.sub hf⟩)
        clear hm
        go_wp2_with (go_at_call 34; refine (HST.out _ HW5.out HBN.out).mono ?_; rintro e w7 ⟨rfl, v7, hpd, hst⟩; have HNX := Lib.hid (HW5.out.next HNE.out HMY.out hpd hst); have c7 := (HW5.out.box.frp hst.fr (fun hq => (HW5.out.ap B hq).1 rfl)).cell (j := 0) rfl; have f7 := (HW5.out.box.frp hst.fr (fun hq => (HW5.out.ap B hq).1 rfl)).free 0; have n7 := (HBN.out.frp hst.fr (fun hq => absurd (HLTW.out _ hq) (Nat.lt_irrefl _))).cell (j := 0) rfl; clear hpd hst)
        have hnx := HNX.out
        rw [← HK.out] at hnx
        have hbx := hnx.box
        refine ⟨⟨n, _, _, _, _, _, _, Lib.hid hnx, by omega⟩, ?_⟩
        have e1 := rest_of hbx
        have e2 := rest_of HR.out.box
        unfold cutP at e1
        rw [e1, e2, List.length_drop]
        omega
      · have HMY := Lib.hid hm
        have HE : Hid (X = (10, D'.dead)) := Lib.hid (by rw [← HR.out.eq, more_no HNE.out hm])
        clear hm
        go_wp2_with (go_at_call 34; refine (step_dead HW5.out.pd HMY.out _).mono ?_; rintro e w7 ⟨rfl, hd⟩; have HD7 := Lib.hid hd; clear hd)
        go_ret
        rw [HE.out]
        obtain ⟨L2, h1, h2⟩ := HD7.out
        exact ⟨rfl, L2, h1, HW5.out.st.trans h2⟩
theorem append_any : Calls Try.prog 11 #[ptr b, .string s, v] w fun e w' => e = .returned (.int .i64 (D.append s l).1) ∧ DkTo w w' b mb L (D.append s l).2 := by
  by_cases ha : D.ask [s] = 0
  · cases hp : kfnd Pf.key L s.data.toList with
    | none => exact append_no b mb D L s v l w h hs hrd (fun _ => h.get_none hp)
    | some p =>
      by_cases hl : D.left < (l.length : Int)
      · have e : D.append s l = (8, D) := by unfold Dk.append; rw [if_neg (by rw [ha]; simp), h.get_some hp]; simp only; rw [if_pos hl]
        rw [e]
        exact append_full b mb D L M N s v l w h hi hs hrd ha p hp hl
      · have e : D.append s l = Dk.more (l.length + 1) D p.f l := by unfold Dk.append; rw [if_neg (by rw [ha]; simp), h.get_some hp]; simp only; rw [if_neg hl]
        rw [e]
        exact append_go b mb D L M N s v l w h hi hN hs hrd hap ha p hp hl
  · exact append_no b mb D L s v l w h hs hrd (fun h0 => absurd h0 ha)
end
end Go.Proofs.Ytgcemddobcjpnaa
