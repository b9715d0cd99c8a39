/- The ledger's Take, Give, Resize: what each answers and what it leaves, of any ledger that holds. -/
import Derived.Test.YtighcnecajgkpaaLedInv
import Derived.Test.YtighcnecajgkpaaLedGive
import Derived.Test.YtighcnecajgkpaaLedResize
import Derived.Test.YtighcnecajgkpaaLedMore
namespace Go.Proofs.Ytighcnecajgkpaa
open Go.RowKit

/-- what is left in a place, one aside -/
def roomP (whole : Am) (L : List Ent) (t aside : ByteArray) : Am := (subR whole (sumA (inB t aside) L)).1
def takeP (cap : Am) (L : List Ent) (s t : ByteArray) (a : Am) : Int × List Ent :=
  if s.size < 1 ∨ 64 < s.size ∨ a.okB = false then (2, L) else
  match fnd L s.data.toList with
  | some _ => (7, L)
  | none => if t.toList = [] then (if fitsB a (roomP cap L t ⟨#[]⟩) then (0, putE L ⟨s, t, a⟩) else (14, L)) else
    match fnd L t.data.toList with
    | none => (6, L)
    | some y => if y.i.toList = [] then (if fitsB a (roomP y.a L t ⟨#[]⟩) then (0, putE L ⟨s, t, a⟩) else (14, L)) else (13, L)
def giveP (L : List Ent) (s : ByteArray) : Int × List Ent :=
  match fnd L s.data.toList with
  | none => (6, L)
  | some _ => if inL s L = [] then (0, rem L s.data.toList) else (13, L)
def resizeP (cap : Am) (L : List Ent) (s : ByteArray) (a : Am) : Int × List Ent :=
  match fnd L s.data.toList with
  | none => (6, L)
  | some x => if a.okB = false then (2, L) else if fitsB (sumA (inR s) L) a = false then (13, L) else
    if x.i.toList = [] then (if fitsB a (roomP cap L x.i s) then (0, putE L ⟨x.n, x.i, a⟩) else (14, L)) else
    match fnd L x.i.data.toList with
    | none => (14, L)
    | some y => if fitsB a (roomP y.a L x.i s) then (0, putE L ⟨x.n, x.i, a⟩) else (14, L)

theorem sub_pair (x y : Am) : subR x y = ((subR x y).1, (subR x y).2) := rfl
theorem stay {w w' : World} {b mb : Nat} {cap : Am} {L : List Ent} (h : Led w b mb cap L) (hb : Below w.heap.size w w') : Led w' b mb cap L ∧ Fr [mb] w w' := ⟨h.kept hb, Fr.of_below hb [mb]⟩

theorem take_all (b mb : Nat) (cap : Am) (L : List Ent) (s t : ByteArray) (a : Am) (w : World) (h : Led w b mb cap L) (hI : Inv cap L) (ht : t.size ≤ maxLen) (hln : L.length < maxLen) :
    Calls Try.prog 9 #[ptr b, .string s, .string t, amV a] w fun e w' => e = .returned (.int .i64 (takeP cap L s t a).1) ∧ Led w' b mb cap (takeP cap L s t a).2 ∧ Fr [mb] w w' := by
  have up : ∀ r, takeP cap L s t a = (r, L) → (Calls Try.prog 9 #[ptr b, .string s, .string t, amV a] w fun e w' => e = .returned (.int .i64 r) ∧ Below w.heap.size w w') → Calls Try.prog 9 #[ptr b, .string s, .string t, amV a] w fun e w' => e = .returned (.int .i64 (takeP cap L s t a).1) ∧ Led w' b mb cap (takeP cap L s t a).2 ∧ Fr [mb] w w' := by
    intro r hr hc
    rw [hr]
    exact hc.mono fun e w' ⟨h1, h2⟩ => ⟨h1, stay h h2⟩
  by_cases h1 : s.size < 1
  · exact up 2 (by unfold takeP; rw [if_pos (.inl h1)]) (take_len b mb cap L s t a w h (.inl (by omega)))
  by_cases h2 : 64 < s.size
  · exact up 2 (by unfold takeP; rw [if_pos (.inr (.inl h2))]) (take_len b mb cap L s t a w h (.inr h2))
  cases ha : a.okB
  · exact up 2 (by unfold takeP; rw [if_pos (.inr (.inr ha))]) (take_bad b mb cap L s t a w h (by omega) (by omega) ha)
  have hc : ¬ (s.size < 1 ∨ 64 < s.size ∨ a.okB = false) := by
    rintro (h3 | h3 | h3)
    · exact h1 h3
    · exact h2 h3
    · rw [ha] at h3; cases h3
  cases hx : fnd L s.data.toList with
  | some x => exact up 7 (by unfold takeP; rw [if_neg hc, hx]) (take_there b mb cap L s t a x w h (by omega) (by omega) ha hx)
  | none =>
    by_cases hi : t.toList = []
    · cases hf : fitsB a (roomP cap L t ⟨#[]⟩)
      · exact up 14 (by unfold takeP; rw [if_neg hc, hx]; simp only [if_pos hi, hf]; rfl) (take_nofit_top b mb cap L s t a w h (by omega) (by omega) ha hx hi hI.rise.apart hI.oks (hI.fit2 _ _) _ _ (sub_pair _ _) hf)
      · have hr : takeP cap L s t a = (0, putE L ⟨s, t, a⟩) := by unfold takeP; rw [if_neg hc, hx]; simp only [if_pos hi, hf]; rfl
        rw [hr]
        exact take_ok_top b mb cap L s t a w h (by omega) (by omega) ha hx hi hI.rise.apart hI.oks (hI.fit2 _ _) _ _ (sub_pair _ _) hln hf
    · cases hy : fnd L t.data.toList with
      | none => exact up 6 (by unfold takeP; rw [if_neg hc, hx]; simp only [if_neg hi, hy]) (take_none b mb cap L s t a w h (by omega) (by omega) ha hx hi ht hy)
      | some y =>
        by_cases hyi : y.i.toList = []
        · cases hf : fitsB a (roomP y.a L t ⟨#[]⟩)
          · exact up 14 (by unfold takeP; rw [if_neg hc, hx]; simp only [if_neg hi, hy, if_pos hyi, hf]; rfl) (take_nofit_in b mb cap L s t a y w h (by omega) (by omega) ha hx hi ht hy hyi hI.rise.apart hI.oks (hI.fit2 _ _) _ _ (sub_pair _ _) hf)
          · have hr : takeP cap L s t a = (0, putE L ⟨s, t, a⟩) := by unfold takeP; rw [if_neg hc, hx]; simp only [if_neg hi, hy, if_pos hyi, hf]; rfl
            rw [hr]
            exact take_ok_in b mb cap L s t a y w h (by omega) (by omega) ha hx hi ht hy hyi hI.rise.apart hI.oks (hI.fit2 _ _) _ _ (sub_pair _ _) hln hf
        · exact up 13 (by unfold takeP; rw [if_neg hc, hx]; simp only [if_neg hi, hy, if_neg hyi]) (take_state b mb cap L s t a y w h (by omega) (by omega) ha hx hi ht hy hyi)

theorem Inv.size {cap : Am} {L : List Ent} (h : Inv cap L) : ∀ e ∈ L, e.n.size ≤ maxLen := fun e he => by have := (h.nm e he).2; unfold maxLen; omega

theorem give_all (b mb : Nat) (cap : Am) (L : List Ent) (s : ByteArray) (w : World) (h : Led w b mb cap L) (hI : Inv cap L) (hs : s.size ≤ maxLen) (hl : L.length ≤ 100000) :
    Calls Try.prog 11 #[ptr b, .string s] w fun e w' => e = .returned (.int .i64 (giveP L s).1) ∧ Led w' b mb cap (giveP L s).2 ∧ Fr [mb] w w' := by
  cases hx : fnd L s.data.toList with
  | none =>
    have hr : giveP L s = (6, L) := by unfold giveP; rw [hx]
    rw [hr]
    exact (give_none b mb cap L s w h hs hx).mono fun e w' ⟨h1, h2⟩ => ⟨h1, stay h h2⟩
  | some x =>
    by_cases hi : inL s L = []
    · have hr : giveP L s = (0, rem L s.data.toList) := by unfold giveP; rw [hx]; exact if_pos hi
      rw [hr]
      exact give_ok b mb cap L s x w h hs hx hI.rise hI.size hl hi
    · have hr : giveP L s = (13, L) := by unfold giveP; rw [hx]; exact if_neg hi
      rw [hr]
      exact (give_state b mb cap L s x w h hs hx hI.rise hI.size hl hi).mono fun e w' ⟨h1, h2⟩ => ⟨h1, stay h h2⟩

theorem data_ext {s t : ByteArray} (h : s.data.toList = t.data.toList) : s = t := by
  cases s; cases t
  congr 1
  exact Array.toList_inj.1 h

theorem resize_all (b mb : Nat) (cap : Am) (L : List Ent) (s : ByteArray) (a : Am) (w : World) (h : Led w b mb cap L) (hI : Inv cap L) (hs : s.size ≤ maxLen) (hln : L.length < maxLen) :
    Calls Try.prog 12 #[ptr b, .string s, amV a] w fun e w' => e = .returned (.int .i64 (resizeP cap L s a).1) ∧ Led w' b mb cap (resizeP cap L s a).2 ∧ Fr [mb] w w' := by
  have up : ∀ r, resizeP cap L s a = (r, L) → (Calls Try.prog 12 #[ptr b, .string s, amV a] w fun e w' => e = .returned (.int .i64 r) ∧ Below w.heap.size w w') → Calls Try.prog 12 #[ptr b, .string s, amV a] w fun e w' => e = .returned (.int .i64 (resizeP cap L s a).1) ∧ Led w' b mb cap (resizeP cap L s a).2 ∧ Fr [mb] w w' := by
    intro r hr hc
    rw [hr]
    exact hc.mono fun e w' ⟨h1, h2⟩ => ⟨h1, stay h h2⟩
  cases hx : fnd L s.data.toList with
  | none => exact up 6 (by unfold resizeP; rw [hx]) (resize_none b mb cap L s a w h hs hx)
  | some x =>
    obtain ⟨hxm, hxk⟩ := fnd_mem hx
    have hxn : x.n = s := data_ext hxk
    cases ha : a.okB
    · exact up 2 (by unfold resizeP; rw [hx]; simp only [ha]; rfl) (resize_bad b mb cap L s a x w h hs hx ha)
    cases hu : fitsB (sumA (inR s) L) a
    · exact up 13 (by unfold resizeP; rw [hx]; simp only [ha, hu]; rfl) (resize_state b mb cap L s a x w h hs hx ha hI.rise.apart hI.oks (hI.fit s) hu)
    by_cases hi : x.i.toList = []
    · cases hf : fitsB a (roomP cap L x.i s)
      · exact up 14 (by unfold resizeP; rw [hx]; simp only [ha, hu, hi, hf]; rfl) (resize_nofit_top b mb cap L s a x w h hs hx ha hI.rise.apart hI.oks (hI.fit s) hu hi (hI.fit2 _ _) _ _ (sub_pair _ _) hf)
      · have hr : resizeP cap L s a = (0, putE L ⟨x.n, x.i, a⟩) := by unfold resizeP; rw [hx]; simp only [ha, hu, hi, hf]; rfl
        rw [hr]
        exact resize_ok_top b mb cap L s a x w h hs hx ha hI.rise.apart hI.oks (hI.fit s) hu hi (hI.fit2 _ _) _ _ (sub_pair _ _) hln hxn hf
    · obtain ⟨y, hy, hyn, hyi⟩ := hI.par x hxm hi
      have hyk : fnd L x.i.data.toList = some y := by
        rw [← Lib.toList_data x.i, ← hyn, tl_key]
        exact fnd_of hI.rise.apart hy
      have hxi : x.i.size ≤ maxLen := by
        have h1 := hI.size y hy
        have h2 : y.n = x.i := data_ext (by rw [← Lib.toList_data, ← Lib.toList_data, hyn])
        rw [← h2]; exact h1
      cases hf : fitsB a (roomP y.a L x.i s)
      · exact up 14 (by unfold resizeP; rw [hx]; simp only [ha, hu, if_neg hi, hyk, hf]; rfl) (resize_nofit_in b mb cap L s a x y w h hs hx ha hI.rise.apart hI.oks (hI.fit s) hu hi hxi hyk (hI.fit2 _ _) _ _ (sub_pair _ _) hf)
      · have hr : resizeP cap L s a = (0, putE L ⟨x.n, x.i, a⟩) := by unfold resizeP; rw [hx]; simp only [ha, hu, if_neg hi, hyk, hf]; rfl
        rw [hr]
        exact resize_ok_in b mb cap L s a x y w h hs hx ha hI.rise.apart hI.oks (hI.fit s) hu hi hxi hyk (hI.fit2 _ _) _ _ (sub_pair _ _) hln hxn hf
end Go.Proofs.Ytighcnecajgkpaa
