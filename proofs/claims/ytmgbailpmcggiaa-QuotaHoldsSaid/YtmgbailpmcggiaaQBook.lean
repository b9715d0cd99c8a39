/- A book in memory: New, asked, named, used. -/
import Derived.Test.YtmgbailpmcggiaaQtPlain
import Derived.Test.YtmgbailpmcggiaaMapRange
import Derived.Test.YtmgbailpmcggiaaLate
import Derived.Test.YtmgbailpmcggiaaPast
import Derived.Test.YtmgbailpmcggiaaAdd
import Derived.Test.YtmgbailpmcggiaaSub
import Derived.Test.YtmgbailpmcggiaaFits
import Derived.Test.YtmgbailpmcggiaaLeast
import Derived.Outline
namespace Go.Proofs.Ytmgbailpmcggiaa
open Go.RowKit

/-- block b is a book that was made, its grants in block mg, its charges in block mc -/
structure Bk (w : World) (b mg mc : Nat) (G : List Gr) (C : List Ch) : Prop where
  blk : Blk w b [.map (some mg), .map (some mc)] 54
  gm : SMap Try.prog 60 w mg (grM G)
  cm : SMap Try.prog 9 w mc (chM C)
  n1 : mg ≠ b
  n2 : mc ≠ b
  n3 : mg ≠ mc
theorem Bk.kept {w w' : World} {b mg mc : Nat} {G : List Gr} {C : List Ch} (h : Bk w b mg mc G C) (hb : Below w.heap.size w w') : Bk w' b mg mc G C := ⟨h.blk.kept hb, h.gm.kept hb, h.cm.kept hb, h.n1, h.n2, h.n3⟩

theorem zero_run {P : Program} {t : TypeId} {z : Value} (h : (P.info? t).bind (·.zero) = some z) (w : World) : (zeroValue t).run P w = .ok z w := by
  cases hi : P.info? t with
  | none => rw [hi] at h; cases h
  | some i =>
    rw [hi] at h
    have hz : i.zero = some z := h
    simp [zeroValue, typeInfo, hi, hz, Result.andThen]
abbrev zC : Ch := ⟨⟨#[]⟩, ⟨#[]⟩, 0, ⟨0, 0, 0, 0⟩⟩
theorem czero (w : World) : (zeroValue 31).run Try.prog w = .ok (chV zC) w := zero_run (by kernel_rfl) w
theorem azero (w : World) : (zeroValue 28).run Try.prog w = .ok (amV .zero) w := zero_run (by kernel_rfl) w

/-! New -/
set_option maxRecDepth 100000 in
set_option maxHeartbeats 1000000 in
theorem bnew_ok (w : World) :
    Calls Try.prog 7 #[] w fun e w' => ∃ b mg mc, e = .returned (ptr b) ∧ w.heap.size ≤ b ∧ w.heap.size ≤ mg ∧ w.heap.size ≤ mc ∧ Bk w' b mg mc [] [] ∧ Below w.heap.size w w' := by
  have hmm := @run_makeMap Try.prog
  go_enter Try.func7, Try.ntmps7
  go_wp2
  go_ret
  refine ⟨w.heap.size + 1 + 1, w.heap.size, w.heap.size + 1, rfl, by omega, by omega, by omega, ⟨?_, ?_, ?_, by omega, by omega, by omega⟩, below_and (below_and (below_alloc w _) (below_alloc _ _)) (below_alloc _ _)⟩
  · simpa using Blk.made ((w.alloc (.map #[] 0)).alloc (.map #[] 0)) [.map (some w.heap.size), .map (some (w.heap.size + 1))] 54
  · exact ((smap_made w _ _).kept (below_alloc _ _)).kept (below_alloc _ _)
  · have := (smap_made (w.alloc (.map #[] 0)) Try.prog 9).kept (below_alloc _ (.cells #[.map (some w.heap.size), .map (some (w.heap.size + 1))] 54))
    show SMap Try.prog 9 _ (w.heap.size + 1) []
    simpa using this

/-! asked, named -/
def askE (u : ByteArray) (b : Int) : Int := if askB u b then 0 else 2
def nmdE (n : ByteArray) : Int := if nmdB n then 0 else 2
set_option maxRecDepth 100000 in
set_option maxHeartbeats 1000000 in
theorem asked_made (b mg mc : Nat) (G : List Gr) (C : List Ch) (u : ByteArray) (d : Int) (w : World) (h : Bk w b mg mc G C) (hd1 : -9223372036854775808 ≤ d) (hd2 : d ≤ 9223372036854775807) :
    Calls Try.prog 24 #[ptr b, .string u, .int .i64 d] w fun e w' => e = .returned (.int .i64 (askE u d)) ∧ Below w.heap.size w w' := by
  have c1 := h.blk.cell (j := 1) rfl
  clear h
  have he := fun w r => run_eql_map_nil (P := Try.prog) w 52 9 31 r Try.underlying52
  cases hn : nameB 16 u.data.toList
  · have HR : Hid (askE u d = 2) := Lib.hid (by unfold askE askB; rw [hn]; rfl)
    have HN := Lib.hid hn
    clear hn
    go_enter Try.func24, Try.ntmps24
    go_wp2_with (go_at_call 41; refine (sname_any u _).mono ?_; rw [HN.out]; rintro e w1 ⟨rfl, hb⟩; have HB1 := Lib.hid hb; clear hb)
    go_ret
    exact ⟨ret_int HR.out.symm, HB1.out⟩
  · have hbe := bandS_empty d
    have HN := Lib.hid hn
    obtain ⟨sb, hsb⟩ : ∃ sb, sb = bandS d := ⟨_, rfl⟩
    have HSB : Hid (∀ w, Calls Try.prog 42 #[.int .i64 d] w fun e w' => e = .returned (.string sb) ∧ Below w.heap.size w w') := Lib.hid (fun w => by rw [hsb]; exact sbands_any d w hd1 hd2)
    rw [← hsb] at hbe
    clear hsb
    cases hq : bandB d
    · have HR : Hid (askE u d = 2) := Lib.hid (by unfold askE askB; rw [hn, hq]; rfl)
      rw [hq] at hbe
      have h2 : sb.toList = [] := by simpa using hbe
      have h3 : sb.toList.isEmpty = true := by simpa using hbe
      clear hn hq hbe
      go_enter Try.func24, Try.ntmps24
      go_wp2_with (first | (go_at_call 41; refine (sname_any u _).mono ?_; rw [HN.out]; rintro e w1 ⟨rfl, hb⟩; have HB1 := Lib.hid hb; clear hb) | (go_at_call 42; refine (HSB.out _).mono ?_; rintro e w2 ⟨rfl, hb⟩; have HB2 := Lib.hid (below_and HB1.out hb); clear hb))
      go_ret
      exact ⟨ret_int HR.out.symm, HB2.out⟩
    · have HR : Hid (askE u d = 0) := Lib.hid (by unfold askE askB; rw [hn, hq]; rfl)
      rw [hq] at hbe
      have h3 : sb.toList.isEmpty = false := by simpa using hbe
      have h2 : ¬ sb.toList = [] := by simpa using h3
      clear hn hq hbe
      go_enter Try.func24, Try.ntmps24
      go_wp2_with (first | (go_at_call 41; refine (sname_any u _).mono ?_; rw [HN.out]; rintro e w1 ⟨rfl, hb⟩; have HB1 := Lib.hid hb; clear hb) | (go_at_call 42; refine (HSB.out _).mono ?_; rintro e w2 ⟨rfl, hb⟩; have HB2 := Lib.hid (below_and HB1.out hb); clear hb))
      go_ret
      exact ⟨ret_int HR.out.symm, HB2.out⟩
set_option maxRecDepth 100000 in
set_option maxHeartbeats 1000000 in
theorem named_made (b mg mc : Nat) (G : List Gr) (C : List Ch) (n : ByteArray) (w : World) (h : Bk w b mg mc G C) :
    Calls Try.prog 26 #[ptr b, .string n] w fun e w' => e = .returned (.int .i64 (nmdE n)) ∧ w = w' := by
  have c1 := h.blk.cell (j := 1) rfl
  clear h
  have he := fun w r => run_eql_map_nil (P := Try.prog) w 52 9 31 r Try.underlying52
  by_cases h1 : n.size < 1
  · have HR : Hid (nmdE n = 2) := Lib.hid (by unfold nmdE nmdB; rw [decide_eq_false (by omega)]; rfl)
    have d1 : decide ((n.size : Int) < 1) = true := by simp; omega
    go_enter Try.func26, Try.ntmps26
    go_wp2
    go_ret
    exact ⟨ret_int HR.out.symm, rfl⟩
  · have d1 : decide ((n.size : Int) < 1) = false := by simp; omega
    by_cases h2 : 64 < n.size
    · have HR : Hid (nmdE n = 2) := Lib.hid (by unfold nmdE nmdB; rw [decide_eq_false (by omega)]; rfl)
      have d2 : decide ((64 : Int) < (n.size : Int)) = true := by simp; omega
      go_enter Try.func26, Try.ntmps26
      go_wp2
      go_ret
      exact ⟨ret_int HR.out.symm, rfl⟩
    · have HR : Hid (nmdE n = 0) := Lib.hid (by unfold nmdE nmdB; rw [decide_eq_true (by omega)]; rfl)
      have d2 : decide ((64 : Int) < (n.size : Int)) = false := by simp; omega
      go_enter Try.func26, Try.ntmps26
      go_wp2
      go_ret
      exact ⟨ret_int HR.out.symm, rfl⟩
end Go.Proofs.Ytmgbailpmcggiaa
