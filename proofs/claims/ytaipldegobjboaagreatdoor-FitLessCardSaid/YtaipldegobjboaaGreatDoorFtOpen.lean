/- FtOpen. -/
import Derived.Test.YtaipldegobjboaaGreatDoorMFt3
import Derived.Test.YtaipldegobjboaaGreatDoorMOp
namespace Go.Proofs.YtaipldegobjboaaGreatDoor.Ft
open Go.RowKit Go.Proofs.YtaipldegobjboaaGreatDoor Go.Proofs.YtaipldegobjboaaGreatDoor.Ru

theorem rows_of {α : Type} (c : α → List Value) (Q : α → Prop) (R : List Value → Prop) (h : ∀ x, R x → ∃ a, x = c a ∧ Q a) : ∀ es : List (List Value), (∀ x ∈ es, R x) → ∃ L : List α, es.flatten = rwC c L ∧ es.length = L.length ∧ ∀ a ∈ L, Q a
  | [], _ => ⟨[], rfl, rfl, by simp⟩
  | x :: es, hx => by
    obtain ⟨L, h1, h2, h3⟩ := rows_of c Q R h es (fun y hy => hx y (by simp [hy]))
    obtain ⟨a, rfl, ha⟩ := h x (hx x (by simp))
    refine ⟨a :: L, ?_, by simp [h2], ?_⟩
    · rw [List.flatten_cons, h1]; rfl
    · intro b hb
      rcases List.mem_cons.1 hb with rfl | hb
      · exact ha
      · exact h3 b hb
theorem bs_self (s : ByteArray) : bs s.data.toList = s := by simp [bs]
theorem leaf_plain {P : Program} {t : TypeId} {v : Value} (h : FieldB P t v) (_hp : plainType P t = true) : FieldB P t v := h
theorem leafq_plain {P : Program} {W : World} {t : TypeId} {v : Value} (h : LeafQ P W t v) (hp : plainType P t = true) : FieldB P t v := by
  rcases h with h | ⟨e, k, zs, h1, -⟩
  · exact h
  · unfold plainType at hp; rw [h1] at hp; cases hp
theorem str_of {t : TypeId} {v : Value} (h : FieldB Tryz.prog t v) (ht : Tryz.prog.underlying t = some .string) : ∃ l : List UInt8, v = .string (bs l) ∧ l.length ≤ 1000000000000000 := by
  obtain ⟨s, rfl, -⟩ := h.1.str ht
  refine ⟨s.data.toList, by rw [bs_self], ?_⟩
  have h1 := h.2 s rfl
  have : s.data.toList.length = s.size := by simp
  omega
theorem i64_of {t : TypeId} {v : Value} (h : FieldB Tryz.prog t v) (ht : Tryz.prog.underlying t = some (.int .i64)) : ∃ n : Int, v = .int .i64 n ∧ (Lit.int .i64 n).wf = true := h.1.int ht
theorem wf_band {n : Int} (h : (Lit.int .i64 n).wf = true) : -9223372036854775808 ≤ n ∧ n ≤ 9223372036854775807 := by
  simpa [Lit.wf, IntKind.min, IntKind.max, IntKind.signed, IntKind.bits] using h

theorem nd_of {x : List Value} (h : LeavG (FieldB Tryz.prog) [3, 9, 9, 2, 3, 3] x) : ∃ n : Nd, x = ndC n ∧ Fit1 n := by
  obtain ⟨hl, hf⟩ := h
  match x, hl with
  | [a, b, c, d, e, f], _ =>
    obtain ⟨a, rfl, -⟩ := i64_of (leaf_plain (hf 0 _ rfl) (by kernel_rfl)) Tryz.underlying3
    obtain ⟨b, rfl, hb⟩ := str_of (leaf_plain (hf 1 _ rfl) (by kernel_rfl)) Tryz.underlying9
    obtain ⟨c, rfl, hc⟩ := str_of (leaf_plain (hf 2 _ rfl) (by kernel_rfl)) Tryz.underlying9
    obtain ⟨d, rfl, hd⟩ := i64_of (leaf_plain (hf 3 _ rfl) (by kernel_rfl)) Tryz.underlying2
    obtain ⟨e, rfl, -⟩ := i64_of (leaf_plain (hf 4 _ rfl) (by kernel_rfl)) Tryz.underlying3
    obtain ⟨f, rfl, -⟩ := i64_of (leaf_plain (hf 5 _ rfl) (by kernel_rfl)) Tryz.underlying3
    exact ⟨⟨a, b, c, d, e, f⟩, rfl, hb, hc, wf_band hd⟩
theorem at_of {x : List Value} (h : LeavG (FieldB Tryz.prog) [9, 9] x) : ∃ a : Ru.At, x = atC a ∧ a.vl.length ≤ 1000000000000000 := by
  obtain ⟨hl, hf⟩ := h
  match x, hl with
  | [a, b], _ =>
    obtain ⟨a, rfl, ha⟩ := str_of (leaf_plain (hf 0 _ rfl) (by kernel_rfl)) Tryz.underlying9
    obtain ⟨b, rfl, hb⟩ := str_of (leaf_plain (hf 1 _ rfl) (by kernel_rfl)) Tryz.underlying9
    exact ⟨⟨a, b⟩, rfl, hb⟩
theorem us_of {x : List Value} (h : LeavG (FieldB Tryz.prog) [9, 3, 3, 2, 2, 2, 2, 9, 4] x) : ∃ u : Us, x = usC u ∧ UsOk u := by
  obtain ⟨hl, hf⟩ := h
  match x, hl with
  | [a, b, c, d, e, f, g, i, j], _ =>
    obtain ⟨a, rfl, ha⟩ := str_of (leaf_plain (hf 0 _ rfl) (by kernel_rfl)) Tryz.underlying9
    obtain ⟨b, rfl, hb⟩ := i64_of (leaf_plain (hf 1 _ rfl) (by kernel_rfl)) Tryz.underlying3
    obtain ⟨c, rfl, -⟩ := i64_of (leaf_plain (hf 2 _ rfl) (by kernel_rfl)) Tryz.underlying3
    obtain ⟨d, rfl, -⟩ := i64_of (leaf_plain (hf 3 _ rfl) (by kernel_rfl)) Tryz.underlying2
    obtain ⟨e, rfl, -⟩ := i64_of (leaf_plain (hf 4 _ rfl) (by kernel_rfl)) Tryz.underlying2
    obtain ⟨f, rfl, -⟩ := i64_of (leaf_plain (hf 5 _ rfl) (by kernel_rfl)) Tryz.underlying2
    obtain ⟨g, rfl, -⟩ := i64_of (leaf_plain (hf 6 _ rfl) (by kernel_rfl)) Tryz.underlying2
    obtain ⟨i, rfl, -⟩ := str_of (leaf_plain (hf 7 _ rfl) (by kernel_rfl)) Tryz.underlying9
    obtain ⟨j, rfl⟩ := (leaf_plain (hf 8 _ rfl) (by kernel_rfl)).1.bool Tryz.underlying4
    exact ⟨⟨a, b, c, ⟨d, e, f, g⟩, i, j⟩, rfl, ha, hb⟩
theorem rows_q {α : Type} {c : α → List Value} {Q : α → Prop} {W : World} {t e : TypeId} {v : Value} {ls : List TypeId} (h : LeafQ Tryz.prog W t v) (ht : Tryz.prog.underlying t = some (.slice e)) (hls : leafG Tryz.prog (plainType Tryz.prog) 4 e = some ls)
    (hc : ∀ x, LeavG (FieldB Tryz.prog) ls x → ∃ a, x = c a ∧ Q a) : ∃ L : List α, Row W v ls.length L.length (rwC c L) ∧ ∀ a ∈ L, Q a := by
  rcases h with h | ⟨e', ls', es, h1, h2, h3, h4⟩
  · rcases h.1 with ⟨k, h, -⟩ | ⟨h, -⟩ | ⟨h, -⟩ <;> · rw [ht] at h; cases h
  · rw [ht] at h1
    simp only [Option.some.injEq, TypeDesc.slice.injEq] at h1
    subst h1
    rw [hls] at h2
    simp only [Option.some.injEq] at h2
    subst h2
    obtain ⟨L, g1, g2, g3⟩ := rows_of c Q _ hc es h4
    rw [g1, g2] at h3
    exact ⟨L, h3, g3⟩
theorem need_of {W : World} {x : List Value} (h : LeavG (LeafQ Tryz.prog W) [9, 3, 2, 2, 2, 2, 24, 9] x) : ∃ (N : Ne) (vl : Value), x = neC N vl ∧ Nds W N vl ∧ NeOk N := by
  obtain ⟨hl, hf⟩ := h
  match x, hl with
  | [a, b, c, d, e, f, v, j], _ =>
    obtain ⟨a, rfl, -⟩ := str_of (leafq_plain (hf 0 _ rfl) (by kernel_rfl)) Tryz.underlying9
    obtain ⟨b, rfl, -⟩ := i64_of (leafq_plain (hf 1 _ rfl) (by kernel_rfl)) Tryz.underlying3
    obtain ⟨c, rfl, -⟩ := i64_of (leafq_plain (hf 2 _ rfl) (by kernel_rfl)) Tryz.underlying2
    obtain ⟨d, rfl, -⟩ := i64_of (leafq_plain (hf 3 _ rfl) (by kernel_rfl)) Tryz.underlying2
    obtain ⟨e, rfl, -⟩ := i64_of (leafq_plain (hf 4 _ rfl) (by kernel_rfl)) Tryz.underlying2
    obtain ⟨f, rfl, -⟩ := i64_of (leafq_plain (hf 5 _ rfl) (by kernel_rfl)) Tryz.underlying2
    obtain ⟨L, hL, hQ⟩ := rows_q (hf 6 _ rfl) Tryz.underlying24 (ls := [3, 9, 9, 2, 3, 3]) (by kernel_rfl) (fun x hx => nd_of hx)
    obtain ⟨j, rfl, -⟩ := str_of (leafq_plain (hf 7 _ rfl) (by kernel_rfl)) Tryz.underlying9
    exact ⟨⟨a, b, ⟨c, d, e, f⟩, L, j⟩, v, rfl, hL, ⟨hQ⟩⟩
theorem view_of {W : World} {x : List Value} (h : LeavG (LeafQ Tryz.prog W) [9, 29, 2, 2, 2, 2, 4, 30] x) : ∃ (V : Vw) (va vu : Value), x = vwC V va vu ∧ Vws W V va vu ∧ (∀ u ∈ V.us, UsOk u) ∧ V.nm.length ≤ 1000000000000000 ∧ ∀ a ∈ V.at', a.vl.length ≤ 1000000000000000 := by
  obtain ⟨hl, hf⟩ := h
  match x, hl with
  | [a, v, c, d, e, f, j, u], _ =>
    obtain ⟨a, rfl, ha⟩ := str_of (leafq_plain (hf 0 _ rfl) (by kernel_rfl)) Tryz.underlying9
    obtain ⟨L, hL, hQ⟩ := rows_q (hf 1 _ rfl) Tryz.underlying29 (ls := [9, 9]) (by kernel_rfl) (fun x hx => at_of hx)
    obtain ⟨c, rfl, -⟩ := i64_of (leafq_plain (hf 2 _ rfl) (by kernel_rfl)) Tryz.underlying2
    obtain ⟨d, rfl, -⟩ := i64_of (leafq_plain (hf 3 _ rfl) (by kernel_rfl)) Tryz.underlying2
    obtain ⟨e, rfl, -⟩ := i64_of (leafq_plain (hf 4 _ rfl) (by kernel_rfl)) Tryz.underlying2
    obtain ⟨f, rfl, -⟩ := i64_of (leafq_plain (hf 5 _ rfl) (by kernel_rfl)) Tryz.underlying2
    obtain ⟨j, rfl⟩ := (leafq_plain (hf 6 _ rfl) (by kernel_rfl)).1.bool Tryz.underlying4
    obtain ⟨M, hM, hR⟩ := rows_q (hf 7 _ rfl) Tryz.underlying30 (ls := [9, 3, 3, 2, 2, 2, 2, 9, 4]) (by kernel_rfl) (fun x hx => us_of hx)
    exact ⟨⟨a, L, ⟨c, d, e, f⟩, j, M⟩, v, u, rfl, ⟨hL, hM⟩, hR, ha, hQ⟩
end Go.Proofs.YtaipldegobjboaaGreatDoor.Ft
