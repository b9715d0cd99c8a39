/- Watch.Tick. -/
import Derived.Test.YtmgcigohfccgeaaWatch2
import Derived.Deep.QuietTactic
import Derived.BigQuiet
namespace Go.Proofs.Ytmgcigohfccgeaa
open Go.RowKit

/-- what a tick tells, in its order, and what is left -/
def tickF : Nat → List End → Int → List End × List End
  | 0, L, _ => ([], L)
  | f + 1, L, T => match L[0]? with
    | none => ([], L)
    | some x => if x.2 ≤ T then (x :: (tickF f (Hp.remove elt L 0) T).1, (tickF f (Hp.remove elt L 0) T).2) else ([], L)
def tick (L : List End) (T : Int) : List End × List End := tickF L.length L T

theorem length_remove (L : List End) (i : Nat) : (Hp.remove elt L i).length = L.length - 1 := by
  unfold Hp.remove; rw [List.length_take, Hp.length_removeL]; omega
theorem tick_nil (T : Int) : tick [] T = ([], []) := rfl
theorem tick_stop {L : List End} {x : End} {T : Int} (hx : L[0]? = some x) (h : ¬ x.2 ≤ T) : tick L T = ([], L) := by
  cases L with
  | nil => simp at hx
  | cons y L => simp at hx; subst hx; simp [tick, tickF, h]
theorem tick_go {L : List End} {x : End} {T : Int} (hx : L[0]? = some x) (h : x.2 ≤ T) : tick L T = (x :: (tick (Hp.remove elt L 0) T).1, (tick (Hp.remove elt L 0) T).2) := by
  cases L with
  | nil => simp at hx
  | cons y L =>
    simp at hx
    subst hx
    have hl := length_remove (y :: L) 0
    unfold tick
    rw [hl]
    simp [tickF, h]

def slen : Value → Nat
  | .slice _ n _ => n
  | _ => 0

theorem info_str : (Try.prog.info? 9).map (fun i => (i.zero, i.size, i.bytes)) = some (some (.string ⟨#[]⟩), 1, 16) := by kernel_rfl

theorem field_name (s : ByteArray) (a : Int) (w : World) : (Instr.field 101 (.agg #[.string s, .int .i64 a]) 0).run Try.prog w = .ok (.string s) w := by kernel_rfl

abbrev names (L : List End) : List Value := L.map fun x => .string x.1

set_option maxRecDepth 100000 in
set_option maxHeartbeats 1000000 in
theorem wtick_ok (b : Nat) (T n T' : Int) (hT' : T + n = T') (v : Value) (L : List End) (w : World) (h : Wt w b T v L) (hl : L.length ≤ 800000) (hn : 0 ≤ n) (hn2 : n ≤ 1048576) (hT : 0 ≤ T) (hT2 : T ≤ 2305843009213693952) :
    Calls Try.prog 29 #[ptr b, .int .i64 n] w fun e w' => ∃ o v', e = .returned (.tuple #[o, .int .i64 0]) ∧ w'.ownsRow w.heap.size 9 1 o (tick L T').1.length (names (tick L T').1) ∧ Wt w' b T' v' (tick L T').2 ∧ Stp w w' b v v' := by
  obtain ⟨i0, hi, hz0, hz1, hz2⟩ := info_parts info_str
  have c0 := h.blk.cell (j := 0) rfl
  have f0 := h.blk.free 0
  have H := Lib.hid h
  have H1 : Hid (Wt (w.setCell ⟨b, 0, none⟩ (.int .i64 (T + n))) b T' v L) := Lib.hid (by rw [hT']; exact ⟨h.blk.set 0 _, own_other h.own h.ne _, h.ne⟩)
  have HS1 : Hid (Stp w (w.setCell ⟨b, 0, none⟩ (.int .i64 (T + n))) b v v) := Lib.hid ⟨(Fr.refl _ _).set (p := ⟨b, 0, none⟩) (mem_fpW.2 (.inl rfl)) _, fun _ h => .inl h⟩
  have HBS : Hid (b < w.heap.size) := Lib.hid h.blk.lt
  clear h hT'
  go_enter Try.func29, Try.ntmps29
  go_wp2_with (go_at_call 60; refine (wnone_made b _ _ _ _ H.out).mono ?_; rintro e w2 ⟨rfl, rfl⟩)
  go_loopw [6] (fun o wc => ∃ (told M : List End) (v2 : Value), told.length + M.length = L.length ∧ Hid (wc.ownsRow w.heap.size 9 1 o told.length (names told)) ∧ Hid (Wt wc b T' v2 M) ∧ Hid (Stp w wc b v v2) ∧ Hid ((tick L T').1 = told ++ (tick M T').1 ∧ (tick L T').2 = (tick M T').2) ∧ Hid (∀ k, o.ownBlock = some k → v2.ownBlock ≠ some k)) (fun o _ => L.length - slen o)
  case atStart => exact ⟨[], L, v, by simp, World.ownsRow_nil _ _ _ _, H1, HS1, ⟨rfl, rfl⟩, fun k hk => by simp [Value.ownBlock] at hk⟩
  case round =>
    obtain ⟨told, M, v2, hlen, HO, HW, HS, HT, HD⟩ := hrel
    have c1 := HW.out.blk.cell (j := 1) rfl
    have c2 := HW.out.blk.cell (j := 0) rfl
    have hso : slen u6 = told.length := by obtain ⟨p, c, rfl, -, -⟩ := own_slice HO.out; rfl
    cases M with
    | nil =>
      obtain ⟨p2, k2, rfl, -, -⟩ := HW.out.shape
      simp only [List.length_nil] at c1
      have HE : Hid ((tick L T').1 = told ∧ (tick L T').2 = []) := Lib.hid (by have := HT.out; rw [tick_nil] at this; simpa using this)
      go_wp2
      go_quiet (fail)
      go_wp2
      go_ret2
      refine ⟨u6, _, rfl, ?_, ?_, HS.out.trans (Stp.of_below (below_drewN nq) _ _)⟩
      · rw [HE.out.1]
        exact own_fr HO.out (Fr.of_below (below_drewN nq) []) (fun _ _ => by simp)
      · rw [HE.out.2]
        exact HW.out.kept (below_drewN nq)
    | cons x M =>
      obtain ⟨g, cap, rfl, hc1, hc2, hc3, hc4⟩ := HW.out.lies (by simp)
      have hx : (x :: M)[0]? = some x := rfl
      have g1 := own_cell HW.out.own (j := 1) (u := .int .i64 x.2) rfl
      simp only [List.length_cons] at c1
      have hM : M.length + 1 ≤ 800000 := by simp only [List.length_cons] at hlen; omega
      by_cases hle : x.2 ≤ T'
      · have HE : Hid ((tick L T').1 = (told ++ [x]) ++ (tick (Hp.remove elt (x :: M) 0) T').1 ∧ (tick L T').2 = (tick (Hp.remove elt (x :: M) 0) T').2) := Lib.hid (by have := HT.out; rw [tick_go hx hle] at this; simpa using this)
        have HRL : Hid ((Hp.remove elt (x :: M) 0).length = M.length) := Lib.hid (by rw [length_remove]; simp)
        have HLT : Hid (∀ k, u6.ownBlock = some k → w.heap.size ≤ k ∧ k < wr.heap.size) := Lib.hid HO.out.lt
        go_wp2
        go_quiet (fail)
        have HWq := Lib.hid (HW.out.kept (below_drewN nq))
        have HOq : Hid (World.ownsRow (wr.drewN nq) w.heap.size 9 1 u6 told.length (names told)) := Lib.hid (own_fr HO.out (Fr.of_below (below_drewN nq) []) (fun _ _ => by simp))
        go_wp2_with (first
          | (go_at_call 64; refine (hpop_any b T' _ (x :: M) M.length x _ HWq.out (by simp) rfl (by simp; omega)).mono ?_; rintro e w3 ⟨rfl, v3, hw, hs⟩; have HW3 := Lib.hid hw; have HS3 := Lib.hid hs; have ta := assert_end x.1 x.2 w3; have tf := field_name x.1 x.2 w3; have HO3 : Hid (World.ownsRow (w3.alloc (.cells #[.string x.1] 9)) w.heap.size 9 1 u6 told.length (names told)) := Lib.hid (own_fr (own_fr HOq.out hs.fr (fun k hk hm => by
              rcases mem_fpW.1 hm with rfl | hm
              · have := (HLT.out _ hk).1; have := HBS.out; omega
              · exact HD.out k hk hm)) (Fr.of_below (below_alloc w3 _) []) (fun _ _ => by simp)); clear hw hs)
          | (at_builtin; refine wpList_app5 rfl _ _ 44 44 rfl w.heap.size 9 i0 (.string ⟨#[]⟩) 1 16 Try.underlying44 hi hz0 hz1 hz2 rfl _ told.length _ rfl HO3.out _ 1 _ rfl (src_block Try.underlying44 _ _ #[_] (heap_alloc_new w3 _) rfl (by simp [Value.oneCell'])) (by unfold maxLen; simp only [List.length_cons] at hlen; omega) (by simp only [List.length_cons] at hlen; omega) (by have := HS.out.fr.size; have := HS3.out.fr.size; simp at *; omega) ?_; intro v5 w5 ho5 hg5 hn5; have HO5 := Lib.hid ho5; have HG5 := Lib.hid hg5; have HN5 := Lib.hid hn5; clear ho5 hg5 hn5))
        go_roundw
        case rel =>
          have hO : w5.ownsRow w.heap.size 9 1 v5 (told ++ [x]).length (names (told ++ [x])) := by
            have := HO5.out
            simpa [names] using this
          have hG : World.grownBy (w3.alloc (.cells #[.string x.1] 9)) w5 u6.ownBlock := HG5.out
          have hN : ∀ k, v5.ownBlock = some k → u6.ownBlock = some k ∨ w3.heap.size + 1 ≤ k := fun k hk => (HN5.out k hk).imp (fun e => e) (fun e => by simpa using e)
          have hdis : ∀ k, u6.ownBlock = some k → k ∉ fpW b v3 := fun k hk hm => by
            rcases mem_fpW.1 hm with rfl | hm
            · have := (HLT.out _ hk).1; have := HBS.out; omega
            · rcases HS3.out.new k hm with h1 | h1
              · exact HD.out k hk h1
              · have := (HLT.out k hk).2
                have : wr.heap.size ≤ k := h1
                omega
          have hf5 : Fr u6.ownBlock.toList w3 w5 := ((Fr.of_below (below_alloc w3 _) u6.ownBlock.toList)).then (Fr.of_grown hG)
          have hW5 : Wt w5 b T' v3 (Hp.remove elt (x :: M) 0) := HW3.out.fr hf5 (fun k hk hm => hdis k (by simpa using hm) hk)
          have hS5 : Stp w w5 b v v3 := by
            have h1 := (HS.out.trans (Stp.of_below (below_drewN nq) b _)).trans HS3.out
            refine ⟨h1.fr.trans hf5 (fun k hk => .inr ?_), h1.new⟩
            exact (HLT.out k (by simpa using hk)).1
          refine ⟨told ++ [x], Hp.remove elt (x :: M) 0, v3, ?_, hO, hW5, hS5, HE.out, fun k hk hv => ?_⟩
          · have := HRL.out
            simp only [List.length_append, List.length_cons, List.length_nil] at *
            omega
          · rcases hN k hk with h1 | h1
            · exact hdis k h1 (mem_fpW.2 (.inr hv))
            · have := (HW3.out.own.lt k hv).2
              omega
        case measure =>
          have h5 : slen v5 = told.length + 1 := by obtain ⟨p, c, e, -, -⟩ := own_slice HO5.out; rw [e]; rfl
          simp only [List.length_cons] at hlen
          simp only [hso, h5, Array.getD, List.size_toArray] at *
          omega
      · have HE : Hid ((tick L T').1 = told ∧ (tick L T').2 = x :: M) := Lib.hid (by have := HT.out; rw [tick_stop hx hle] at this; simpa using this)
        go_wp2
        go_quiet (fail)
        go_wp2
        go_ret2
        refine ⟨u6, _, rfl, ?_, ?_, HS.out.trans (Stp.of_below (below_drewN nq) _ _)⟩
        · rw [HE.out.1]
          exact own_fr HO.out (Fr.of_below (below_drewN nq) []) (fun _ _ => by simp)
        · rw [HE.out.2]
          exact HW.out.kept (below_drewN nq)
end Go.Proofs.Ytmgcigohfccgeaa
