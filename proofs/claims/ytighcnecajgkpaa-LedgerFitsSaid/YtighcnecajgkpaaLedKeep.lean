/- The ledger's Take, Give, Resize keep what holds; an error changes nothing. -/
import Derived.Test.YtighcnecajgkpaaLedStep
namespace Go.Proofs.Ytighcnecajgkpaa
open Go.RowKit

theorem inB_nil {cap : Am} {L : List Ent} (h : Inv cap L) (t : ByteArray) : sumA (inB t ⟨#[]⟩) L = sumA (inR t) L := sum_same fun e he => by
  unfold inB inR
  rw [nil_list]
  have := size_list (h.nm e he).1
  cases hl : e.n.toList with
  | nil => exact absurd hl this
  | cons x l => simp
theorem room_fit {cap w a : Am} {L : List Ent} (h : Inv cap L) (hw : w.okB = true) (t s : ByteArray) (hle : ∀ k, k < 4 → (sumA (inB t s) L).get k ≤ w.get k) (hf : fitsB a (roomP w L t s) = true) :
    ∀ k, k < 4 → a.get k + (sumA (inB t s) L).get k ≤ w.get k := fun k hk => by
  have h1 := fitsB_le hf hk
  unfold roomP at h1
  rw [subR_le hw (h.fit2 t s) hle, Am.of_get _ k hk] at h1
  omega
theorem Inv.room {cap : Am} {L : List Ent} (h : Inv cap L) {y : Ent} (hy : y ∈ L) (hi : y.i.toList = []) {t s : ByteArray} (ht : y.n.toList = t.toList) {k : Nat} (hk : k < 4) : (sumA (inB t s) L).get k ≤ y.a.get k := by
  have h1 := h.parF y hy hi k hk
  have h2 := sum_le h.oks (fun e _ hp => inB_le t s e hp) hk
  rw [inR_same ht] at h1
  omega
theorem Inv.roomC {cap : Am} {L : List Ent} (h : Inv cap L) {t s : ByteArray} (ht : t.toList = []) {k : Nat} (hk : k < 4) : (sumA (inB t s) L).get k ≤ cap.get k := by
  have h1 := h.capF k hk
  have h2 := sum_le h.oks (fun e _ hp => inB_le t s e hp) hk
  rw [inR_same (nil_list.trans ht.symm)] at h1
  omega
theorem fresh_room {L : List Ent} {s : ByteArray} (hx : fnd L s.data.toList = none) (t : ByteArray) : sumA (inB t s) L = sumA (inR t) L := sum_same fun e he => by
  have h1 := fnd_none hx e he
  unfold inB inR
  rw [tl_key, Lib.toList_data s]
  have h2 : (e.key == s.data.toList) = false := by simpa using h1
  rw [h2]
  simp

theorem Inv.take {cap : Am} {L : List Ent} (h : Inv cap L) (s t : ByteArray) (a : Am) : Inv cap (takeP cap L s t a).2 := by
  unfold takeP
  split
  · exact h
  · next hc =>
    have h1 : 1 ≤ s.size := by omega
    have h2 : s.size ≤ 64 := by omega
    have ha : a.okB = true := by
      cases h3 : a.okB
      · exact absurd (.inr (.inr h3)) hc
      · rfl
    split
    · exact h
    · next hx =>
      have hch : ∀ k, k < 4 → (sumA (inR s) L).get k ≤ a.get k := fun k hk => by
        rw [sum_none (fun e he => ?_) hk]
        · exact (ok_get ha hk).1
        · unfold inR
          cases hq : e.i.toList == s.toList
          · rfl
          · have hq' : e.i.toList = s.toList := by simpa using hq
            obtain ⟨y, hy, hn, -⟩ := h.par e he (by rw [hq']; exact size_list h1)
            exact absurd (by rw [← tl_key, hn, hq', Lib.toList_data]) (fnd_none hx y hy)
      have hvac : ∀ y ∈ L, y.key = (⟨s, t, a⟩ : Ent).key → y.i.toList = (⟨s, t, a⟩ : Ent).i.toList := fun y hy hk => absurd hk (fnd_none hx y hy)
      split
      · next hi =>
        split
        · next hf =>
          refine h.put ⟨s, t, a⟩ ha ⟨h1, h2⟩ (fun hn => absurd hi hn) (fun _ k hk => ?_) hch hvac
          have := room_fit h h.cok t ⟨#[]⟩ (fun k hk => h.roomC hi hk) hf k hk
          rw [inB_nil h] at this
          show a.get k + (sumA (inB t s) L).get k ≤ _
          rw [fresh_room hx]
          exact this
        · exact h
      · next hi =>
        split
        · exact h
        · next y hy =>
          obtain ⟨hym, hyk⟩ := fnd_mem hy
          have hyn : y.n.toList = t.toList := by rw [tl_key, hyk, Lib.toList_data]
          split
          · next hyi =>
            split
            · next hf =>
              refine h.put ⟨s, t, a⟩ ha ⟨h1, h2⟩ (fun _ => ⟨y, hym, hyn, hyi, fun k hk => ?_⟩) (fun h0 => absurd h0 hi) hch hvac
              have := room_fit h (h.oks y hym) t ⟨#[]⟩ (fun k hk => h.room hym hyi hyn hk) hf k hk
              rw [inB_nil h] at this
              show a.get k + (sumA (inB t s) L).get k ≤ _
              rw [fresh_room hx]
              exact this
            · exact h
          · exact h

theorem inL_none {s : ByteArray} {L : List Ent} (hs : s.toList ≠ []) (h : inL s L = []) : ∀ e ∈ L, inR s e = false := fun e he => by
  unfold inL at h
  rw [List.map_eq_nil_iff, List.filter_eq_nil_iff] at h
  have h1 := h e he
  have h2 : s.toList.isEmpty = false := by simpa using hs
  unfold inP at h1
  rw [h2] at h1
  unfold inR
  simpa using h1
theorem Inv.give {cap : Am} {L : List Ent} (h : Inv cap L) (s : ByteArray) : Inv cap (giveP L s).2 := by
  unfold giveP
  split
  · exact h
  · next x hx =>
    split
    · next hi =>
      obtain ⟨hxm, hxk⟩ := fnd_mem hx
      have hxn : x.n = s := data_ext hxk
      have := h.rem x hxm (fun e he => by rw [hxn]; exact inL_none (by rw [← hxn]; exact size_list (h.nm x hxm).1) hi e he)
      rw [hxk] at this
      exact this
    · exact h
theorem Inv.resize {cap : Am} {L : List Ent} (h : Inv cap L) (s : ByteArray) (a : Am) : Inv cap (resizeP cap L s a).2 := by
  unfold resizeP
  split
  · exact h
  · next x hx =>
    obtain ⟨hxm, hxk⟩ := fnd_mem hx
    have hxn : x.n = s := data_ext hxk
    split
    · exact h
    · next ha =>
      have ha' : a.okB = true := by simpa using ha
      split
      · exact h
      · next hu =>
        have hu' : fitsB (sumA (inR s) L) a = true := by simpa using hu
        have hch : ∀ k, k < 4 → (sumA (inR x.n) L).get k ≤ a.get k := fun k hk => by rw [hxn]; exact fitsB_le hu' hk
        have hsame : ∀ y ∈ L, y.key = (⟨x.n, x.i, a⟩ : Ent).key → y.i.toList = x.i.toList := fun y hy hk => by rw [h.one hy hxm hk]
        split
        · next hi =>
          split
          · next hf =>
            refine h.put ⟨x.n, x.i, a⟩ ha' (h.nm x hxm) (fun hn => absurd hi hn) (fun _ k hk => ?_) hch hsame
            have := room_fit h h.cok x.i s (fun k hk => h.roomC hi hk) hf k hk
            show a.get k + (sumA (inB x.i x.n) L).get k ≤ _
            rw [hxn]
            exact this
          · exact h
        · next hi =>
          split
          · exact h
          · next y hy =>
            obtain ⟨hym, hyk⟩ := fnd_mem hy
            have hyn : y.n.toList = x.i.toList := by rw [tl_key, hyk, Lib.toList_data]
            have hyi : y.i.toList = [] := by
              obtain ⟨z, hz, h1, h2⟩ := h.par x hxm hi
              have : z = y := h.one hz hym (by rw [← tl_key, ← tl_key, h1, hyn])
              rw [← this]; exact h2
            split
            · next hf =>
              refine h.put ⟨x.n, x.i, a⟩ ha' (h.nm x hxm) (fun _ => ⟨y, hym, hyn, hyi, fun k hk => ?_⟩) (fun h0 => absurd h0 hi) hch hsame
              have := room_fit h (h.oks y hym) x.i s (fun k hk => h.room hym hyi hyn hk) hf k hk
              show a.get k + (sumA (inB x.i x.n) L).get k ≤ _
              rw [hxn]
              exact this
            · exact h

theorem insE_len (x : Ent) : ∀ L : List Ent, (insE x L).length = L.length + 1
  | [] => rfl
  | y :: L => by unfold insE; split <;> simp [insE_len x L]
theorem putE_len (L : List Ent) (x : Ent) : (putE L x).length ≤ L.length + 1 := by
  unfold putE
  rw [insE_len]
  have : (rem L x.key).length ≤ L.length := List.length_filter_le _ _
  omega
theorem take_len2 (cap : Am) (L : List Ent) (s t : ByteArray) (a : Am) : (takeP cap L s t a).2.length ≤ L.length + 1 := by
  unfold takeP
  repeat' split
  all_goals first | exact putE_len _ _ | (show L.length ≤ _; omega)
theorem give_len2 (L : List Ent) (s : ByteArray) : (giveP L s).2.length ≤ L.length + 1 := by
  unfold giveP
  repeat' split
  all_goals first | (show L.length ≤ _; omega) | (have : (rem L s.data.toList).length ≤ L.length := List.length_filter_le _ _; show (rem L s.data.toList).length ≤ _; omega)
theorem resize_len2 (cap : Am) (L : List Ent) (s : ByteArray) (a : Am) : (resizeP cap L s a).2.length ≤ L.length + 1 := by
  unfold resizeP
  repeat' split
  all_goals first | exact putE_len _ _ | (show L.length ≤ _; omega)
theorem take_err (cap : Am) (L : List Ent) (s t : ByteArray) (a : Am) (h : (takeP cap L s t a).1 ≠ 0) : (takeP cap L s t a).2 = L := by
  have : ∀ p, takeP cap L s t a = p → p.1 ≠ 0 → p.2 = L := by
    intro p hp
    unfold takeP at hp
    repeat' split at hp
    all_goals
      subst hp
      first
        | exact fun _ => rfl
        | exact fun h => absurd rfl h
  exact this _ rfl h
theorem give_err (L : List Ent) (s : ByteArray) (h : (giveP L s).1 ≠ 0) : (giveP L s).2 = L := by
  have : ∀ p, giveP L s = p → p.1 ≠ 0 → p.2 = L := by
    intro p hp
    unfold giveP at hp
    repeat' split at hp
    all_goals
      subst hp
      first
        | exact fun _ => rfl
        | exact fun h => absurd rfl h
  exact this _ rfl h
theorem resize_err (cap : Am) (L : List Ent) (s : ByteArray) (a : Am) (h : (resizeP cap L s a).1 ≠ 0) : (resizeP cap L s a).2 = L := by
  have : ∀ p, resizeP cap L s a = p → p.1 ≠ 0 → p.2 = L := by
    intro p hp
    unfold resizeP at hp
    repeat' split at hp
    all_goals
      subst hp
      first
        | exact fun _ => rfl
        | exact fun h => absurd rfl h
  exact this _ rfl h
end Go.Proofs.Ytighcnecajgkpaa
