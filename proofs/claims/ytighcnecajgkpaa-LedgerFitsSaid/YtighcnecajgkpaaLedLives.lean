/- Chapter 10's lives answers true. -/
import Derived.Test.YtighcnecajgkpaaLedKeep
namespace Go.Proofs.Ytighcnecajgkpaa
open Go.RowKit

abbrev cap10 : Am := ⟨10, 10, 0, 0⟩
abbrev La : List Ent := [⟨⟨#[97]⟩, ⟨#[]⟩, ⟨6, 0, 0, 0⟩⟩]
abbrev Lab : List Ent := [⟨⟨#[97]⟩, ⟨#[]⟩, ⟨6, 0, 0, 0⟩⟩, ⟨⟨#[98]⟩, ⟨#[]⟩, ⟨4, 10, 0, 0⟩⟩]
theorem step_a : takeP cap10 [] ⟨#[97]⟩ ⟨#[]⟩ ⟨6, 0, 0, 0⟩ = (0, La) := by kernel_rfl
theorem step_b : takeP cap10 La ⟨#[98]⟩ ⟨#[]⟩ ⟨5, 0, 0, 0⟩ = (14, La) := by kernel_rfl
theorem step_b2 : takeP cap10 La ⟨#[98]⟩ ⟨#[]⟩ ⟨4, 10, 0, 0⟩ = (0, Lab) := by kernel_rfl
theorem free_ab : subR cap10 (sumA (inB ⟨#[]⟩ ⟨#[]⟩) Lab) = (.zero, 0) := by kernel_rfl
theorem Inv.took {cap : Am} {L L' : List Ent} (h : Inv cap L) {s t : ByteArray} {a : Am} {r : Int} (e : takeP cap L s t a = (r, L')) : Inv cap L' := by have := h.take s t a; rw [e] at this; exact this
theorem inv_0 : Inv cap10 [] := Inv.nil (by decide)
theorem inv_a : Inv cap10 La := inv_0.took step_a
theorem inv_ab : Inv cap10 Lab := inv_a.took step_b2

theorem fr_bel {n mb : Nat} {a w w' : World} (h : Below n a w) (hm : n ≤ mb) (hf : Fr [mb] w w') (hn : a.heap.size = n := by rfl) : Below n a w' :=
  h.trans (hf.below (fun y hy => by rw [List.mem_singleton.1 hy]; exact hm) (by rw [← hn]; exact h.size))
theorem took_all (b mb : Nat) (cap : Am) (L L' : List Ent) (s t : ByteArray) (a : Am) (r : Int) (hI : Inv cap L) (ht : t.size ≤ maxLen) (hln : L.length < maxLen) (e : takeP cap L s t a = (r, L')) (w : World) (h : Led w b mb cap L) :
    Calls Try.prog 9 #[ptr b, .string s, .string t, amV a] w fun e w' => e = .returned (.int .i64 r) ∧ Led w' b mb cap L' ∧ Fr [mb] w w' := by
  have := take_all b mb cap L s t a w h hI ht hln
  rw [e] at this
  exact this

set_option maxRecDepth 100000 in
set_option maxHeartbeats 400000 in
theorem llives (w : World) :
    Calls Try.prog 7 #[] w fun e w' => e = .returned (.bool true) ∧ Below w.heap.size w w' := by
  have T1 := Lib.hid fun b mb => took_all b mb cap10 [] La _ _ _ _ inv_0 (by decide) (by decide) step_a
  have T2 := Lib.hid fun b mb => took_all b mb cap10 La La _ _ _ _ inv_a (by decide) (by decide) step_b
  have T3 := Lib.hid fun b mb => took_all b mb cap10 La Lab _ _ _ _ inv_a (by decide) (by decide) step_b2
  have T4 := Lib.hid fun b mb w h => free_made b mb cap10 Lab w h inv_ab.rise.apart inv_ab.oks (inv_ab.fit2 _ _) _ _ free_ab
  go_enter Try.func7, Try.ntmps7
  go_upto_region 2 with (go_at_call 8; refine (lnew_ok cap10 _ rfl).mono ?_; rintro e w1 ⟨b, mb, rfl, hb0, hm0, hl, hb⟩; have H1 := Lib.hid hl; have HB1 := Lib.hid hb; have HB0 := Lib.hid hb0; have HM0 := Lib.hid hm0; clear hb hl hb0 hm0)
  go_wp2_with fail
  refine (T1.out b mb _ H1.out).mono ?_
  rintro e w2 ⟨rfl, hl, hf⟩
  have H2 := Lib.hid hl
  have F2 := Lib.hid hf
  clear hl hf
  go_wp2_with fail
  refine (T2.out b mb _ H2.out).mono ?_
  rintro e w3 ⟨rfl, hl, hf⟩
  have H3 := Lib.hid hl
  have F3 := Lib.hid hf
  clear hl hf
  go_wp2_with fail
  refine (T3.out b mb _ H3.out).mono ?_
  rintro e w4 ⟨rfl, hl, hf⟩
  have H4 := Lib.hid hl
  have F4 := Lib.hid hf
  clear hl hf
  go_wp2_with fail
  refine (T4.out b mb _ H4.out).mono ?_
  rintro e w5 ⟨rfl, hb⟩
  have HB5 := Lib.hid hb
  clear hb
  go_wp2_with fail
  go_ret
  refine ⟨rfl, ?_⟩
  have h1 := fr_bel HB1.out HM0.out F2.out
  have h2 := fr_bel h1 HM0.out F3.out
  have h3 := fr_bel h2 HM0.out F4.out
  exact below_and h3 HB5.out
end Go.Proofs.Ytighcnecajgkpaa
