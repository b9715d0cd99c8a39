/- RdOpen. -/
import Derived.Test.YtdnoceancoclmaaGreatDoorM46
import Derived.Test.YtdnoceancoclmaaGreatDoorRuHoldP
import Derived.Test.YtdnoceancoclmaaGreatDoorM29
import Derived.Test.YtdnoceancoclmaaGreatDoorRuMem
namespace Go.Proofs.YtdnoceancoclmaaGreatDoor.Ru
open Go.RowKit Go.Proofs.YtdnoceancoclmaaGreatDoor

theorem rows_ofR {α : Type} (c : α → List Value) (Q : α → Prop) (R : List Value → Prop) (h : ∀ x, R x → ∃ a, x = c a ∧ Q a) : ∀ es : List (List Value), (∀ x ∈ es, R x) → ∃ L : List α, es.flatten = rwC c L ∧ es.length = L.length ∧ ∀ a ∈ L, Q a
  | [], _ => ⟨[], rfl, rfl, by simp⟩
  | x :: es, hx => by
    obtain ⟨L, h1, h2, h3⟩ := rows_ofR c Q R h es (fun y hy => hx y (by simp [hy]))
    obtain ⟨a, rfl, ha⟩ := h x (hx x (by simp))
    refine ⟨a :: L, ?_, by simp [h2], ?_⟩
    · rw [List.flatten_cons, h1]; rfl
    · intro b hb
      rcases List.mem_cons.1 hb with rfl | hb
      · exact ha
      · exact h3 b hb
theorem str_ofR {t : TypeId} {v : Value} (h : FieldB Tryz.prog t v) (ht : Tryz.prog.underlying t = some .string) : ∃ l : List UInt8, v = .string (bs l) ∧ l.length ≤ 140737488351232 := by
  obtain ⟨s, rfl, -⟩ := h.1.str ht
  refine ⟨s.data.toList, by simp [bs], ?_⟩
  have h1 := h.2 s rfl
  have : s.data.toList.length = s.size := by simp
  omega
theorem i64_ofR {t : TypeId} {v : Value} (h : FieldB Tryz.prog t v) (ht : Tryz.prog.underlying t = some (.int .i64)) : ∃ n : Int, v = .int .i64 n ∧ (-9223372036854775808 ≤ n ∧ n ≤ 9223372036854775807) := by
  obtain ⟨n, rfl, hn⟩ := h.1.int ht
  exact ⟨n, rfl, by simpa [Lit.wf, IntKind.min, IntKind.max, IntKind.signed, IntKind.bits] using hn⟩
/-- what an opened node is -/
def NdB (n : Nd) : Prop := Fit1 n ∧ n.nm.length ≤ 140737488351232 ∧ n.vl.length ≤ 140737488351232
def AtB (a : At) : Prop := a.nm.length ≤ 140737488351232 ∧ a.vl.length ≤ 140737488351232
theorem nd_ofR {x : List Value} (h : LeavG (FieldB Tryz.prog) [3, 9, 9, 2, 3, 3] x) : ∃ n : Nd, x = ndC n ∧ NdB n := by
  obtain ⟨hl, hf⟩ := h
  match x, hl with
  | [a, b, c, d, e, f], _ =>
    obtain ⟨a, rfl, -⟩ := i64_ofR (hf 0 _ rfl) Tryz.underlying3
    obtain ⟨b, rfl, hb⟩ := str_ofR (hf 1 _ rfl) Tryz.underlying9
    obtain ⟨c, rfl, hc⟩ := str_ofR (hf 2 _ rfl) Tryz.underlying9
    obtain ⟨d, rfl, hd⟩ := i64_ofR (hf 3 _ rfl) Tryz.underlying2
    obtain ⟨e, rfl, -⟩ := i64_ofR (hf 4 _ rfl) Tryz.underlying3
    obtain ⟨f, rfl, -⟩ := i64_ofR (hf 5 _ rfl) Tryz.underlying3
    exact ⟨⟨a, b, c, d, e, f⟩, rfl, ⟨by simp only; omega, by simp only; omega, hd⟩, hb, hc⟩
theorem at_ofR {x : List Value} (h : LeavG (FieldB Tryz.prog) [9, 9] x) : ∃ a : At, x = atC a ∧ AtB a := by
  obtain ⟨hl, hf⟩ := h
  match x, hl with
  | [a, b], _ =>
    obtain ⟨a, rfl, ha⟩ := str_ofR (hf 0 _ rfl) Tryz.underlying9
    obtain ⟨b, rfl, hb⟩ := str_ofR (hf 1 _ rfl) Tryz.underlying9
    exact ⟨⟨a, b⟩, rfl, ha, hb⟩
theorem rows_qR {α : Type} {c : α → List Value} {Q : α → Prop} {W : World} {t e : TypeId} {v : Value} {ls : List TypeId} (h : LeafQ Tryz.prog W t v) (ht : Tryz.prog.underlying t = some (.slice e)) (hls : leafG Tryz.prog (plainType Tryz.prog) 4 e = some ls)
    (hc : ∀ x, LeavG (FieldB Tryz.prog) ls x → ∃ a, x = c a ∧ Q a) : ∃ L : List α, Row W v ls.length L.length (rwC c L) ∧ (∀ a ∈ L, Q a) ∧ L.length * Tryz.prog.bytesOf e ≤ 140737488351232 := by
  rcases h with h | ⟨e', ls', es, h1, h2, h3, h4, h5⟩
  · rcases h.1 with ⟨k, h, -⟩ | ⟨h, -⟩ | ⟨h, -⟩ <;> · rw [ht] at h; cases h
  · rw [ht] at h1
    simp only [Option.some.injEq, TypeDesc.slice.injEq] at h1
    subst h1
    rw [hls] at h2
    simp only [Option.some.injEq] at h2
    subst h2
    obtain ⟨L, g1, g2, g3⟩ := rows_ofR c Q _ hc es h4
    rw [g1, g2] at h3
    exact ⟨L, h3, g3, by rw [← g2]; exact h5⟩
theorem rule_ofR {W : World} {x : List Value} (h : LeavG (LeafQ Tryz.prog W) [22] x) : ∃ (v : Value) (L : List Nd), x = [v] ∧ Row W v 6 L.length (rwC ndC L) ∧ (∀ n ∈ L, NdB n) ∧ L.length * 64 ≤ 140737488351232 := by
  obtain ⟨hl, hf⟩ := h
  match x, hl with
  | [v], _ =>
    obtain ⟨L, hL, hQ, hb⟩ := rows_qR (hf 0 _ rfl) Tryz.underlying22 (ls := [3, 9, 9, 2, 3, 3]) (by kernel_rfl) (fun x hx => nd_ofR hx)
    rw [show Tryz.prog.bytesOf 52 = 64 from by kernel_rfl] at hb
    exact ⟨v, L, rfl, hL, hQ, hb⟩
theorem attrs_ofR {W : World} {v : Value} (h : LeafQ Tryz.prog W 25 v) : ∃ A : List At, Row W v 2 A.length (rwC atC A) ∧ (∀ a ∈ A, AtB a) ∧ A.length * 32 ≤ 140737488351232 := by
  obtain ⟨A, hA, hQ, hb⟩ := rows_qR h Tryz.underlying25 (ls := [9, 9]) (by kernel_rfl) (fun x hx => at_ofR hx)
  rw [show Tryz.prog.bytesOf 40 = 32 from by kernel_rfl] at hb
  exact ⟨A, hA, hQ, hb⟩
end Go.Proofs.YtdnoceancoclmaaGreatDoor.Ru
