/- Texts of one proof, laid together: WQuScript, QWalkS. No condition of ours. -/
import Derived.Test.YtmgbailpmcggiaaGreatQZ21
import Derived.Deep.DeepCutAuto
namespace Go.Proofs.YtmgbailpmcggiaaGreat
open Go.RowKit

set_option maxRecDepth 100000 in
set_option maxHeartbeats 6000000 in
theorem quotaScript_go (v : Value) (l : List Ac) (w : World) (h : Acts w v l) :
    Calls Tryz.prog 3 #[v] w fun e w' => e = .returned (.bool true) ∧ Below w.heap.size w w' := by
  obtain ⟨p, c, rfl, hlc, hcm⟩ := h.shape
  have hml : maxLen ≤ 9223372036854775807 := by decide
  have H := Lib.hid h
  clear h
  by_cases hl : 200 < l.length
  · have i1 : (200 : Int) < (l.length : Int) := by omega
    go_enter Tryz.func3, Tryz.ntmps3
    go_wp2_with (go_at_call 4; refine (qlives _).mono ?_; rintro e w2 ⟨rfl, hb⟩; have HB2 := Lib.hid hb; clear hb)
    go_ret
    exact ⟨rfl, HB2.out⟩
  have HL : Hid (l.length ≤ 200) := Lib.hid (by omega)
  have i1 : ¬ (200 : Int) < (l.length : Int) := by omega
  clear hl
  go_enter Tryz.func3, Tryz.ntmps3
  go_upto_region 6 with (first
    | (go_at_call 4; refine (qlives _).mono ?_; rintro e w2 ⟨rfl, hb⟩; have HB2 := Lib.hid hb; clear hb)
    | (go_at_call 5; refine (bo_new _).mono ?_; rintro e w3 ⟨b, mg, mc, rfl, h3⟩; have H3 : Hid (Bo w w3 b mg mc 0 [] []) := Lib.hid (h3.base HB2.out); clear h3))
  refine at_hide (F := fun w' => Tq w w' b mg mc w3.heap.size 0 [] [] [] []) ?_ ?_
  · exact ⟨H3.out.kept (below_alloc _ _), ⟨.slice none 0 0, .slice none 0 0, Blk.made w3 [.slice none 0 0, .slice none 0 0] _, World.ownsRow_nil _ _ _ _, World.ownsRow_nil _ _ _ _, by simp [Value.ownBlock], by simp [Value.ownBlock]⟩, H3.out.hb.size⟩
  intro w4 hF
  obtain ⟨g, hg⟩ : ∃ g, g = w3.heap.size := ⟨_, rfl⟩
  rw [← hg] at hF ⊢
  have H4 := Lib.hid hF
  clear hF hg H3
  go_wp2
  go_loopw [5] (fun i wr => ∃ (k : Nat) (G S : List Gr) (C : List Ch), k ≤ l.length ∧ i = .int .i64 (k : Int) ∧ Hid (Tq w wr b mg mc g k G S C C) ∧ Hid (Sg S G)) (fun i _ => l.length - (intOf i).toNat)
  case atStart => exact ⟨0, [], [], [], Nat.zero_le _, rfl, H4, Lib.hid Sg.nil⟩
  case round =>
    obtain ⟨k, G, S, C, hk, rfl, HR, HS⟩ := hrel
    by_cases hlt : k < l.length
    · obtain ⟨ab, o, rfl, hcs⟩ := (H.out.below HR.out.hb).at hlt
      obtain ⟨x, hx⟩ : ∃ x, x = l[k] := ⟨_, rfl⟩
      have HXS : Hid x.ok := Lib.hid (H.out.2 x (by rw [hx]; exact List.getElem_mem hlt))
      rw [← hx] at hcs
      have HK1 : Hid (k ≤ 1000) := Lib.hid (by have := HL.out; omega)
      have HK2 : Hid (k + 1 ≤ 1000) := Lib.hid (by have := HL.out; omega)
      have HSS : Hid (∀ w', Below wr.heap.size wr w' ∨ Below w.heap.size w w' → w'.cell? ⟨ab, o + k * 8, none⟩ = some (.int .i64 x.k) ∧ w'.cell? ⟨ab, o + k * 8 + 1, none⟩ = some (.string x.s) ∧ w'.cell? ⟨ab, o + k * 8 + 2, none⟩ = some (.string x.u) ∧ w'.cell? ⟨ab, o + k * 8 + 3, none⟩ = some (.int .i64 x.d) ∧ w'.cell? ⟨ab, o + k * 8 + 4, none⟩ = some (.int .i64 x.a.c) ∧ w'.cell? ⟨ab, o + k * 8 + 5, none⟩ = some (.int .i64 x.a.r) ∧ w'.cell? ⟨ab, o + k * 8 + 6, none⟩ = some (.int .i64 x.a.d) ∧ w'.cell? ⟨ab, o + k * 8 + 7, none⟩ = some (.int .i64 x.a.p)) := Lib.hid (fun w' hb => by
        have hc : ∀ j u, j < 8 → (x.c)[j]? = some u → w'.cell? ⟨ab, o + k * 8 + j, none⟩ = some u := by
          intro j u hj hu
          rcases hb with hb | hb
          · exact cell_kept (hcs j u hj hu) hb
          · obtain ⟨ab2, o2, e2, hcs2⟩ := (H.out.below hb).at hlt
            cases e2
            rw [← hx] at hcs2
            exact hcs2 j u hj hu
        exact ⟨hc 0 _ (by omega) rfl, hc 1 _ (by omega) rfl, hc 2 _ (by omega) rfl, hc 3 _ (by omega) rfl, hc 4 _ (by omega) rfl, hc 5 _ (by omega) rfl, hc 6 _ (by omega) rfl, hc 7 _ (by omega) rfl⟩)
      have i2 : (k : Int) < (l.length : Int) := by omega
      have i0 : (0 : Int) ≤ (k : Int) := by omega
      clear hcs hx
      obtain ⟨r, G', C', hp⟩ : ∃ r G' C', stepQ G C x = (r, G', C') := ⟨_, _, _, rfl⟩
      obtain ⟨S', hS'⟩ : ∃ S', S' = stepS S x := ⟨_, rfl⟩
      have HSG : Hid (Sg S' G') := Lib.hid (by have := stepS_sg HS.out HR.out.bo.qi x HXS.out; rw [hp, ← hS'] at this; exact this)
      have HST : Hid (∀ w' S2 C2, Tq w w' b mg mc g k G S2 C C2 → Calls Tryz.prog 6 #[ptr b, .agg #[.int .i64 x.k, .string x.s, .string x.u, .int .i64 x.d, .int .i64 x.a.c, .int .i64 x.a.r, .int .i64 x.a.d, .int .i64 x.a.p]] w' fun e w2 => e = .returned (.int .i64 r) ∧ Tq w w2 b mg mc g (k + 1) G' S2 C' C2) := Lib.hid (fun w' S2 C2 h' => by
        have := tq_step h' HK1.out x HXS.out
        rw [hp] at this
        exact this)
      have HSH : Hid (∀ w' m G2 C2, Tq w w' b mg mc g m G2 S C2 C → Calls Tryz.prog 7 #[ptr g, .agg #[.int .i64 x.k, .string x.s, .string x.u, .int .i64 x.d, .int .i64 x.a.c, .int .i64 x.a.r, .int .i64 x.a.d, .int .i64 x.a.p]] w' fun e w2 => e = .returned (.int .i64 r) ∧ Tq w w2 b mg mc g m G2 S' C2 C') := Lib.hid (fun w' m G2 C2 h' => by
        have := tq_should h' HR.out.bo.qi HS.out HK1.out x HXS.out
        rw [hp, ← hS'] at this
        exact this)
      clear hp hS'
      go_wp2
      go_region_held3 (fun w' => w'.cell? ⟨ab, o + k * 8, none⟩ = some (.int .i64 x.k) ∧ w'.cell? ⟨ab, o + k * 8 + 1, none⟩ = some (.string x.s) ∧ w'.cell? ⟨ab, o + k * 8 + 2, none⟩ = some (.string x.u) ∧ w'.cell? ⟨ab, o + k * 8 + 3, none⟩ = some (.int .i64 x.d) ∧ w'.cell? ⟨ab, o + k * 8 + 4, none⟩ = some (.int .i64 x.a.c) ∧ w'.cell? ⟨ab, o + k * 8 + 5, none⟩ = some (.int .i64 x.a.r) ∧ w'.cell? ⟨ab, o + k * 8 + 6, none⟩ = some (.int .i64 x.a.d) ∧ w'.cell? ⟨ab, o + k * 8 + 7, none⟩ = some (.int .i64 x.a.p))
        (first | exact HSS.out _ (.inr T9.out.hb) | exact HSS.out _ (.inr T8.out.hb) | exact HSS.out _ (.inr T7.out.hb) | exact HSS.out _ (.inr T6.out.hb) | exact HSS.out _ (.inl (bl_drew (Below.refl _ _))))
        (first
          | (go_at_call 6; first
              | (refine (HST.out _ _ _ T7.out).mono ?_; rintro e w8 ⟨rfl, h8⟩; have T8 := Lib.hid h8; clear h8)
              | (refine (HST.out _ _ _ (HR.out.kept (bl_drew (Below.refl _ _)))).mono ?_; rintro e w6 ⟨rfl, h6⟩; have T6 := Lib.hid h6; clear h6))
          | (go_at_call 7; first
              | (refine (HSH.out _ _ _ _ T6.out).mono ?_; rintro e w8 ⟨rfl, h8⟩; have T8 := Lib.hid h8; clear h8)
              | (refine (HSH.out _ _ _ _ (HR.out.kept (bl_drew (Below.refl _ _)))).mono ?_; rintro e w7 ⟨rfl, h7⟩; have T7 := Lib.hid h7; clear h7))
          | (go_at_call 8; refine (tq_same T8.out HSG.out HK2.out x.u x.d HXS.out.1 HXS.out.2).mono ?_; rintro e w9 ⟨rfl, hb⟩; have T9 := Lib.hid (T8.out.kept hb); clear hb))
      all_goals go_wp2
      all_goals go_roundw
      all_goals first
        | exact ⟨k + 1, G', S', C', hlt, by go_num, T9, HSG⟩
        | (simp [intOf]; omega)
    · obtain rfl : k = l.length := by omega
      go_wp2
      go_ret
      exact ⟨rfl, HR.out.hb⟩
end Go.Proofs.YtmgbailpmcggiaaGreat
namespace Go.Proofs.YtmgbailpmcggiaaGreat
open Go.RowKit

theorem quotaScript_walk (v : Value) (es : List (List Value)) (w : World) (hr : Row w v 8 es.length es.flatten) (hf : ∀ x ∈ es, Leaves Tryz.prog [3, 9, 9, 3, 2, 2, 2, 2] x) :
    Calls Tryz.prog 3 #[v] w fun e w' => e = .returned (.bool true) ∧ Below w.heap.size w w' := by
  obtain ⟨l, hl⟩ := acts_of hr hf
  exact quotaScript_go v l w hl
end Go.Proofs.YtmgbailpmcggiaaGreat
