/- What holds of a disk between calls is kept. -/
import Derived.Test.YtgcemddobcjpnaaDkMem
import Derived.Test.YtgcemddobcjpnaaKl2
namespace Go.Proofs.Ytgcemddobcjpnaa
open Go.RowKit

def lenF (f : Fl) : Int := (f.b.length : Int)
theorem bytes_sum (F : List Fl) : Dk.bytes F = ksum lenF F := rfl
theorem lenF_nn : ∀ (L : List Fl), ∀ e ∈ L, 0 ≤ lenF e := fun _ e _ => by unfold lenF; omega
theorem krem_len_le {α : Type} (key : α → List UInt8) (L : List α) (s : List UInt8) : (krem key L s).length ≤ L.length := List.length_filter_le _ _
theorem kins_len {α : Type} {key : α → List UInt8} (x : α) (L : List α) : (kins key x L).length = L.length + 1 := (kins_perm (key := key) x L).length_eq
theorem krem_len_lt {α : Type} {key : α → List UInt8} {L : List α} {s : List UInt8} {f : α} (h : KRise key L) (hf : kfnd key L s = some f) : (krem key L s).length + 1 = L.length := by
  obtain ⟨hk, -⟩ := kfnd_place h hf
  rw [krem_place h hf, List.length_eraseIdx_of_lt hk]
  omega
theorem ksum_put {α : Type} {key : α → List UInt8} (g : α → Int) (L : List α) (x : α) : ksum g (kput key L x) = g x + ksum g (krem key L (key x)) := by
  unfold kput
  rw [ksum_ins]
theorem ksum_rem_le {L : List Fl} (s : List UInt8) : ksum lenF (krem Fl.key L s) ≤ ksum lenF L := by
  induction L with
  | nil => exact Int.le_refl _
  | cons e L ih =>
    unfold krem at *
    rw [List.filter_cons, ksum_cons]
    split
    · rw [ksum_cons]; omega
    · have : 0 ≤ lenF e := by unfold lenF; omega
      omega
theorem ksum_rem_of {L : List Fl} {s : List UInt8} {f : Fl} (h : KRise Fl.key L) (hf : kfnd Fl.key L s = some f) : ksum lenF (krem Fl.key L s) = ksum lenF L - lenF f := by
  obtain ⟨hm, rfl⟩ := kfnd_mem hf
  exact ksum_rem h.apart hm

section
variable {D : Dk} {M : Nat} {N : Int}
theorem DkI.mono {M' : Nat} {N' : Int} (h : DkI D M N) (hm : M ≤ M') (hn : N ≤ N') : DkI D M' N' :=
  ⟨h.rise, h.syn, h.nam, h.fits, h.room, Nat.le_trans h.len hm, h.fuse, h.steps.1, Int.le_trans h.steps.2 hn⟩
theorem DkI.dead (h : DkI D M N) : DkI D.dead M N := ⟨h.rise, h.syn, h.nam, h.fits, h.room, h.len, h.fuse, h.steps⟩
theorem DkI.stepped (h : DkI D M N) (hm : D.may = true) : DkI D.stepped M (N + 1) := by
  refine ⟨h.rise, h.syn, h.nam, h.fits, h.room, h.len, ?_, ?_⟩
  · have h1 := h.fuse
    unfold Dk.stepped
    simp only
    unfold Dk.may at hm
    cases hf : D.fused
    · simpa [hf] using h1
    · rw [hf] at hm
      simp only [Bool.true_and, Bool.not_eq_true', decide_eq_false_iff_not] at hm
      simp only [if_true]
      omega
  · have h1 := h.steps
    show 0 ≤ D.steps + 1 ∧ D.steps + 1 ≤ N + 1
    omega
theorem DkI.free (h : DkI D M N) : DkI D.free M N := ⟨h.rise, h.syn, h.nam, h.fits, h.room, h.len, by simp [Dk.free], h.steps⟩
/-- a file in place of the one by its name -/
theorem DkI.putAt (h : DkI D M N) {f x : Fl} (hf : kfnd Fl.key D.F x.key = some f) (hs : x.s ≤ x.b.length) (hn : x.n.size ≤ 24) (hl : Dk.bytes D.F - lenF f + lenF x ≤ D.room) : DkI (D.put x) M N := by
  refine ⟨h.rise.put x, fun y hy => ?_, fun y hy => ?_, ?_, h.room, ?_, h.fuse, h.steps⟩
  · rcases (kput_mem D.F x y).1 hy with rfl | ⟨hy, -⟩
    · exact hs
    · exact h.syn y hy
  · rcases (kput_mem D.F x y).1 hy with rfl | ⟨hy, -⟩
    · exact hn
    · exact h.nam y hy
  · show Dk.bytes (kput Fl.key D.F x) ≤ D.room
    rw [bytes_sum, ksum_put, ksum_rem_of h.rise hf]
    rw [bytes_sum] at hl
    omega
  · show (kput Fl.key D.F x).length ≤ M
    unfold kput
    rw [kins_len, krem_len_lt h.rise hf]
    exact h.len
/-- a file, whether one by its name was there or not -/
theorem DkI.putNew (h : DkI D M N) {x : Fl} (hs : x.s ≤ x.b.length) (hn : x.n.size ≤ 24) (hl : Dk.bytes D.F + lenF x ≤ D.room) : DkI (D.put x) (M + 1) N := by
  refine ⟨h.rise.put x, fun y hy => ?_, fun y hy => ?_, ?_, h.room, ?_, h.fuse, h.steps⟩
  · rcases (kput_mem D.F x y).1 hy with rfl | ⟨hy, -⟩
    · exact hs
    · exact h.syn y hy
  · rcases (kput_mem D.F x y).1 hy with rfl | ⟨hy, -⟩
    · exact hn
    · exact h.nam y hy
  · show Dk.bytes (kput Fl.key D.F x) ≤ D.room
    rw [bytes_sum, ksum_put]
    rw [bytes_sum] at hl
    have := ksum_rem_le (L := D.F) x.key
    omega
  · show (kput Fl.key D.F x).length ≤ M + 1
    unfold kput
    rw [kins_len]
    have := krem_len_le Fl.key D.F x.key
    have := h.len
    omega
theorem DkI.cut (h : DkI D M N) (s : ByteArray) : DkI (D.cut s) M N := by
  refine ⟨h.rise.rem _, fun y hy => h.syn y ((krem_mem D.F _ y).1 hy).1, fun y hy => h.nam y ((krem_mem D.F _ y).1 hy).1, ?_, h.room, ?_, h.fuse, h.steps⟩
  · show Dk.bytes (krem Fl.key D.F s.data.toList) ≤ D.room
    have := h.fits
    rw [bytes_sum] at *
    have := ksum_rem_le (L := D.F) s.data.toList
    omega
  · exact Nat.le_trans (krem_len_le Fl.key D.F _) h.len
theorem DkI.one_le (h : DkI D M N) {f : Fl} (hf : f ∈ D.F) : lenF f ≤ D.room := by
  have := ksum_mem (lenF_nn D.F) hf
  have := h.fits
  rw [bytes_sum] at this
  omega
theorem ask_ok {D : Dk} {l : List ByteArray} (h : D.ask l = 0) : D.off = false ∧ ∀ s ∈ l, nameB s = true := by
  unfold Dk.ask at h
  split at h
  · cases h
  · split at h
    · exact ⟨by simpa using ‹¬ D.off = true›, by simpa using ‹l.all nameB = true›⟩
    · cases h
theorem nameB_le {s : ByteArray} (h : nameB s = true) : s.size ≤ 24 := by
  unfold nameB at h
  simp only [Bool.and_eq_true, decide_eq_true_eq] at h
  exact h.2.1
theorem get_of {D : Dk} {s : ByteArray} {f : Fl} (h : D.get s = some f) : f ∈ D.F ∧ f.key = s.data.toList ∧ kfnd Fl.key D.F f.key = some f := by
  unfold Dk.get at h
  obtain ⟨h1, h2⟩ := kfnd_mem h
  exact ⟨h1, h2, by rw [h2]; exact h⟩
theorem not_zero {q : Int} (h : ¬ q ≠ 0) : q = 0 := by omega

theorem DkI.make (h : DkI D M N) (s : ByteArray) : DkI (D.make s).2 (M + 1) (N + 1) := by
  unfold Dk.make
  split
  · exact h.mono (by omega) (by omega)
  · rename_i ha
    split
    · exact h.mono (by omega) (by omega)
    · split
      · rename_i hm
        refine (h.stepped hm).putNew (Nat.le_refl _) (nameB_le ((ask_ok (not_zero ha)).2 s (by simp))) ?_
        have := h.fits
        show Dk.bytes D.F + 0 ≤ D.room
        omega
      · exact h.dead.mono (by omega) (by omega)
theorem DkI.addB (h : DkI D M N) {f : Fl} (hf : kfnd Fl.key D.F f.key = some f) (l : List UInt8) (hl : Dk.bytes D.F + (l.length : Int) ≤ D.room) : DkI (D.addB f l) M N := by
  obtain ⟨hm, -⟩ := kfnd_mem hf
  refine h.putAt (f := f) hf (by have := h.syn f hm; simp; omega) (h.nam f hm) ?_
  unfold lenF
  simp only [List.length_append]
  omega
theorem find_addB (h : DkI D M N) {f : Fl} (hf : kfnd Fl.key D.F f.key = some f) (l : List UInt8) : kfnd Fl.key (D.addB f l).F f.key = some { f with b := f.b ++ l } :=
  kfnd_of (key := Fl.key) (h.rise.put _).apart (e := { f with b := f.b ++ l }) ((kput_mem D.F _ _).2 (.inl rfl))
theorem bytes_addB (h : DkI D M N) {f : Fl} (hf : kfnd Fl.key D.F f.key = some f) (l : List UInt8) : Dk.bytes (D.addB f l).F = Dk.bytes D.F + (l.length : Int) := by
  show Dk.bytes (kput Fl.key D.F _) = _
  have hk : ({ f with b := f.b ++ l } : Fl).key = f.key := rfl
  rw [bytes_sum, ksum_put, hk, ksum_rem_of h.rise hf, ← bytes_sum]
  unfold lenF
  simp only [List.length_append]
  omega
theorem DkI.more : ∀ (n : Nat) {D : Dk} {N : Int} (_ : DkI D M N) {f : Fl} (_ : kfnd Fl.key D.F f.key = some f) (l : List UInt8) (_ : Dk.bytes D.F + (l.length : Int) ≤ D.room), DkI (Dk.more n D f l).2 M (N + (l.length : Int))
  | 0, _, _, h, _, _, l, _ => h.mono (Nat.le_refl _) (by omega)
  | n + 1, D, N, h, f, hf, l, hl => by
    unfold Dk.more
    split
    · exact h.mono (Nat.le_refl _) (by omega)
    · split
      · rename_i hne hm
        have hs := h.stepped hm
        have hlt : (l.take 64).length + (l.drop 64).length = l.length := by rw [List.length_take, List.length_drop]; omega
        have hpos : 1 ≤ (l.take 64).length := by
          have : l.length ≠ 0 := fun e => hne (List.eq_nil_of_length_eq_zero e)
          rw [List.length_take]; omega
        have ha := hs.addB (f := f) hf (l.take 64) (by show Dk.bytes D.F + _ ≤ D.room; omega)
        have hb := bytes_addB hs (f := f) hf (l.take 64)
        have := DkI.more n ha (f := { f with b := f.b ++ l.take 64 }) (find_addB hs (f := f) hf (l.take 64)) (l.drop 64) (by
          rw [hb]
          show Dk.bytes D.F + _ + _ ≤ D.room
          omega)
        exact this.mono (Nat.le_refl _) (by omega)
      · exact h.dead.mono (Nat.le_refl _) (by omega)
theorem DkI.append (h : DkI D M N) (s : ByteArray) (l : List UInt8) : DkI (D.append s l).2 M (N + (l.length : Int)) := by
  unfold Dk.append
  split
  · exact h.mono (Nat.le_refl _) (by omega)
  · split
    · exact h.mono (Nat.le_refl _) (by omega)
    · rename_i f hf
      split
      · exact h.mono (Nat.le_refl _) (by omega)
      · rename_i hl
        unfold Dk.left at hl
        exact DkI.more _ h (get_of hf).2.2 l (by omega)
theorem DkI.sync (h : DkI D M N) (s : ByteArray) : DkI (D.sync s).2 M (N + 1) := by
  unfold Dk.sync
  split
  · exact h.mono (Nat.le_refl _) (by omega)
  · split
    · exact h.mono (Nat.le_refl _) (by omega)
    · rename_i f hf
      split
      · rename_i hm
        obtain ⟨h1, h2, h3⟩ := get_of hf
        refine (h.stepped hm).putAt (x := { f with s := f.b.length }) (f := f) h3 (Nat.le_refl _) (h.nam f h1) ?_
        show Dk.bytes D.F - lenF f + lenF f ≤ D.room
        have := h.fits
        omega
      · exact h.dead.mono (Nat.le_refl _) (by omega)
theorem DkI.rename (h : DkI D M N) (s t : ByteArray) : DkI (D.rename s t).2 M (N + 1) := by
  unfold Dk.rename
  split
  · exact h.mono (Nat.le_refl _) (by omega)
  · rename_i ha
    split
    · exact h.mono (Nat.le_refl _) (by omega)
    · rename_i f hf
      split
      · exact h.mono (Nat.le_refl _) (by omega)
      · split
        · rename_i hm
          obtain ⟨h1, h2, h3⟩ := get_of hf
          have hc := (h.stepped hm).cut s
          have hb : Dk.bytes (D.stepped.cut s).F = Dk.bytes D.F - lenF f := by
            show Dk.bytes (krem Fl.key D.F s.data.toList) = _
            rw [bytes_sum, bytes_sum, ksum_rem_of h.rise (by rw [← h2]; exact h3)]
          have hlen : (D.stepped.cut s).F.length + 1 = D.F.length := krem_len_lt h.rise (by rw [← h2]; exact h3)
          have hc2 : DkI (D.stepped.cut s) (M - 1) (N + 1) := ⟨hc.rise, hc.syn, hc.nam, hc.fits, hc.room, by have := h.len; omega, hc.fuse, hc.steps⟩
          have := hc2.putNew (x := { f with n := t }) (h.syn f h1) (nameB_le ((ask_ok (not_zero ha)).2 t (by simp))) (by
            rw [hb]
            show Dk.bytes D.F - lenF f + lenF f ≤ D.room
            have := h.fits
            omega)
          have hM : 1 ≤ M := by have := h.len; omega
          exact this.mono (by omega) (Int.le_refl _)
        · exact h.dead.mono (Nat.le_refl _) (by omega)
theorem DkI.remove (h : DkI D M N) (s : ByteArray) : DkI (D.remove s).2 M (N + 1) := by
  unfold Dk.remove
  split
  · exact h.mono (Nat.le_refl _) (by omega)
  · split
    · exact h.mono (Nat.le_refl _) (by omega)
    · split
      · rename_i hm
        exact (h.stepped hm).cut s
      · exact h.dead.mono (Nat.le_refl _) (by omega)
theorem DkI.setFuse (h : DkI D M N) (n : Int) (hn : n ≤ 9223372036854775807) : DkI (D.setFuse n).2 M N := by
  unfold Dk.setFuse
  split
  · exact h
  · split
    · exact h
    · exact ⟨h.rise, h.syn, h.nam, h.fits, h.room, h.len, ⟨by simp only; omega, hn⟩, h.steps⟩
theorem keepN_le (keep : List Int) (i : Nat) (f : Fl) : Dk.keepN keep i f ≤ f.b.length - f.s := by
  unfold Dk.keepN
  split <;> omega
theorem mapIdx_sum (keep : List Int) : ∀ (L : List Fl) (k : Nat), ksum lenF (L.mapIdx fun i => Dk.keepF keep (i + k)) ≤ ksum lenF L
  | [], _ => Int.le_refl _
  | f :: L, k => by
    rw [List.mapIdx_cons, ksum_cons, ksum_cons]
    have h1 : lenF (Dk.keepF keep (0 + k) f) ≤ lenF f := by
      unfold lenF Dk.keepF
      simp only [List.length_take]
      omega
    have h2 := mapIdx_sum keep L (k + 1)
    have h3 : (fun i => Dk.keepF keep (i + 1 + k)) = fun i => Dk.keepF keep (i + (k + 1)) := by funext i; congr 1; omega
    rw [h3]
    omega
theorem keepF_key (keep : List Int) (i : Nat) (f : Fl) : (Dk.keepF keep i f).key = f.key := rfl
theorem DkI.crash (h : DkI D M N) (keep : List Int) : DkI (D.crash keep).2 M N := by
  unfold Dk.crash
  split
  · have hrise : KRise Fl.key (D.F.mapIdx (Dk.keepF keep)) := by
      unfold KRise
      have := h.rise
      unfold KRise at this
      rw [List.pairwise_iff_getElem] at this ⊢
      intro i j hi hj hij
      simp only [List.getElem_mapIdx, keepF_key]
      exact this i j (by simpa using hi) (by simpa using hj) hij
    refine ⟨hrise, fun f hf => ?_, fun f hf => ?_, ?_, h.room, by show (D.F.mapIdx _).length ≤ M; rw [List.length_mapIdx]; exact h.len, by simp [Dk.free], h.steps⟩
    · obtain ⟨i, hi, rfl⟩ := List.mem_mapIdx.1 hf
      have h1 := h.syn D.F[i] (List.getElem_mem hi)
      have h2 := keepN_le keep i D.F[i]
      unfold Dk.keepF
      simp only [List.length_take]
      omega
    · obtain ⟨i, hi, rfl⟩ := List.mem_mapIdx.1 hf
      exact h.nam D.F[i] (List.getElem_mem hi)
    · show Dk.bytes (D.F.mapIdx (Dk.keepF keep)) ≤ D.room
      have := mapIdx_sum keep D.F 0
      have h1 := h.fits
      rw [bytes_sum] at *
      simp only [Nat.add_zero] at this
      have e : (fun i => Dk.keepF keep i) = Dk.keepF keep := rfl
      rw [e] at this
      omega
  · exact h
theorem DkI.turn (h : DkI D M N) (s : ByteArray) (k : Int) (c : UInt8) : DkI (D.turn s k c).2 M N := by
  unfold Dk.turn
  split
  · split
    · exact h
    · rename_i f hf
      split
      · obtain ⟨h1, h2, h3⟩ := get_of hf
        refine h.putAt (x := Dk.turned f k.toNat c) (f := f) h3 (by unfold Dk.turned; simp only [List.length_modify]; exact h.syn f h1) (h.nam f h1) ?_
        have e : lenF (Dk.turned f k.toNat c) = lenF f := by unfold lenF Dk.turned; simp only [List.length_modify]
        rw [e]
        have := h.fits
        omega
      · exact h
  · exact h
end
end Go.Proofs.Ytgcemddobcjpnaa
