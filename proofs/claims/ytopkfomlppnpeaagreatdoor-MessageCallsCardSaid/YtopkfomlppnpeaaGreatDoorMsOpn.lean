/- MsOpn. -/
import Derived.Test.YtopkfomlppnpeaaGreatDoorMsRead
import Derived.Test.YtopkfomlppnpeaaGreatDoorMOp
namespace Go.Proofs.YtopkfomlppnpeaaGreatDoor.Ms
open Go.RowKit Go.Proofs.YtopkfomlppnpeaaGreatDoor

theorem rows_of {α : Type} (c : α → List Value) (Q : α → Prop) (R : List Value → Prop) (h : ∀ x, R x → ∃ a, x = c a ∧ Q a) : ∀ es : List (List Value), (∀ x ∈ es, R x) → ∃ L : List α, es.flatten = rwC c L ∧ es.length = L.length ∧ ∀ a ∈ L, Q a
  | [], _ => ⟨[], rfl, rfl, by simp⟩
  | x :: es, hx => by
    obtain ⟨L, h1, h2, h3⟩ := rows_of c Q R h es (fun y hy => hx y (by simp [hy]))
    obtain ⟨a, rfl, ha⟩ := h x (hx x (by simp))
    refine ⟨a :: L, ?_, by simp [h2], ?_⟩
    · rw [List.flatten_cons, h1]; rfl
    · intro b hb
      rcases List.mem_cons.1 hb with rfl | hb
      · exact ha
      · exact h3 b hb
theorem bs_self (s : ByteArray) : bs s.data.toList = s := by simp [bs]
theorem leaf_plain {P : Program} {t : TypeId} {v : Value} (h : FieldB P t v) (_hp : plainType P t = true) : FieldB P t v := h
theorem leafq_plain {P : Program} {W : World} {t : TypeId} {v : Value} (h : LeafQ P W t v) (hp : plainType P t = true) : FieldB P t v := by
  rcases h with h | ⟨e, k, zs, h1, -⟩
  · exact h
  · unfold plainType at hp; rw [h1] at hp; cases hp
theorem str_of {t : TypeId} {v : Value} (h : FieldB Tryz.prog t v) (ht : Tryz.prog.underlying t = some .string) : ∃ l : List UInt8, v = .string (bs l) ∧ l.length ≤ 140737488351232 := by
  obtain ⟨s, rfl, -⟩ := h.1.str ht
  refine ⟨s.data.toList, by rw [bs_self], ?_⟩
  have h1 := h.2 s rfl
  have : s.data.toList.length = s.size := by simp
  omega
theorem i64_of {t : TypeId} {v : Value} (h : FieldB Tryz.prog t v) (ht : Tryz.prog.underlying t = some (.int .i64)) : ∃ n : Int, v = .int .i64 n ∧ (Lit.int .i64 n).wf = true := h.1.int ht
theorem u64_of {t : TypeId} {v : Value} (h : FieldB Tryz.prog t v) (ht : Tryz.prog.underlying t = some (.int .u64)) : ∃ n : Int, v = .int .u64 n ∧ (Lit.int .u64 n).wf = true := h.1.int ht
theorem wf_u {n : Int} (h : (Lit.int .u64 n).wf = true) : u64B n := by
  have : 0 ≤ n ∧ n ≤ 18446744073709551615 := by simpa [Lit.wf, IntKind.min, IntKind.max, IntKind.signed, IntKind.bits] using h
  unfold u64B
  omega
theorem wf_i {n : Int} (h : (Lit.int .i64 n).wf = true) : i64B n := by
  have : -9223372036854775808 ≤ n ∧ n ≤ 9223372036854775807 := by simpa [Lit.wf, IntKind.min, IntKind.max, IntKind.signed, IntKind.bits] using h
  unfold i64B
  omega
theorem rows_q {α : Type} {c : α → List Value} {Q : α → Prop} {W : World} {t e : TypeId} {v : Value} {ls : List TypeId} (h : LeafQ Tryz.prog W t v) (ht : Tryz.prog.underlying t = some (.slice e)) (hls : leafG Tryz.prog (plainType Tryz.prog) 4 e = some ls)
    (hc : ∀ x, LeavG (FieldB Tryz.prog) ls x → ∃ a, x = c a ∧ Q a) : ∃ L : List α, Row W v ls.length L.length (rwC c L) ∧ ∀ a ∈ L, Q a := by
  rcases h with h | ⟨e', ls', es, h1, h2, h3, h4⟩
  · rcases h.1 with ⟨k, h, -⟩ | ⟨h, -⟩ | ⟨h, -⟩ <;> · rw [ht] at h; cases h
  · rw [ht] at h1
    simp only [Option.some.injEq, TypeDesc.slice.injEq] at h1
    subst h1
    rw [hls] at h2
    simp only [Option.some.injEq] at h2
    subst h2
    obtain ⟨L, g1, g2, g3⟩ := rows_of c Q _ hc es h4
    rw [g1, g2] at h3
    exact ⟨L, h3, g3⟩
theorem env_of {x : List Value} (h : LeavG (FieldB Tryz.prog) [9, 2, 2, 2, 2] x) : ∃ e : El, x = envC e ∧ TxOk e ∧ envK e := by
  obtain ⟨hl, hf⟩ := h
  match x, hl with
  | [v0, v1, v2, v3, v4], _ =>
    obtain ⟨v0, rfl, b0⟩ := str_of (leaf_plain (hf 0 _ rfl) (by kernel_rfl)) Tryz.underlying9
    obtain ⟨v1, rfl, b1⟩ := i64_of (leaf_plain (hf 1 _ rfl) (by kernel_rfl)) Tryz.underlying2
    obtain ⟨v2, rfl, b2⟩ := i64_of (leaf_plain (hf 2 _ rfl) (by kernel_rfl)) Tryz.underlying2
    obtain ⟨v3, rfl, b3⟩ := i64_of (leaf_plain (hf 3 _ rfl) (by kernel_rfl)) Tryz.underlying2
    obtain ⟨v4, rfl, b4⟩ := i64_of (leaf_plain (hf 4 _ rfl) (by kernel_rfl)) Tryz.underlying2
    exact ⟨⟨v0, 0, 0, ⟨v1, v2, v3, v4⟩, [], 0, 0⟩, rfl, ⟨b0, by simp, by simp, by simp⟩, ⟨rfl, rfl, rfl, rfl, rfl⟩⟩
theorem sta_of {x : List Value} (h : LeavG (FieldB Tryz.prog) [9, 3, 27, 2, 2, 2, 2, 9] x) : ∃ e : El, x = staC e ∧ TxOk e ∧ staK e := by
  obtain ⟨hl, hf⟩ := h
  match x, hl with
  | [v0, v1, v2, v3, v4, v5, v6, v7], _ =>
    obtain ⟨v0, rfl, b0⟩ := str_of (leaf_plain (hf 0 _ rfl) (by kernel_rfl)) Tryz.underlying9
    obtain ⟨v1, rfl, b1⟩ := i64_of (leaf_plain (hf 1 _ rfl) (by kernel_rfl)) Tryz.underlying3
    obtain ⟨v2, rfl, b2⟩ := u64_of (leaf_plain (hf 2 _ rfl) (by kernel_rfl)) Tryz.underlying27
    obtain ⟨v3, rfl, b3⟩ := i64_of (leaf_plain (hf 3 _ rfl) (by kernel_rfl)) Tryz.underlying2
    obtain ⟨v4, rfl, b4⟩ := i64_of (leaf_plain (hf 4 _ rfl) (by kernel_rfl)) Tryz.underlying2
    obtain ⟨v5, rfl, b5⟩ := i64_of (leaf_plain (hf 5 _ rfl) (by kernel_rfl)) Tryz.underlying2
    obtain ⟨v6, rfl, b6⟩ := i64_of (leaf_plain (hf 6 _ rfl) (by kernel_rfl)) Tryz.underlying2
    obtain ⟨v7, rfl, b7⟩ := str_of (leaf_plain (hf 7 _ rfl) (by kernel_rfl)) Tryz.underlying9
    exact ⟨⟨v0, v1, v2, ⟨v3, v4, v5, v6⟩, v7, 0, 0⟩, rfl, ⟨b0, b7, wf_u b2, by simp⟩, ⟨rfl, rfl⟩⟩
theorem sto_of {x : List Value} (h : LeavG (FieldB Tryz.prog) [9, 3, 27] x) : ∃ e : El, x = stoC e ∧ TxOk e ∧ stoK e := by
  obtain ⟨hl, hf⟩ := h
  match x, hl with
  | [v0, v1, v2], _ =>
    obtain ⟨v0, rfl, b0⟩ := str_of (leaf_plain (hf 0 _ rfl) (by kernel_rfl)) Tryz.underlying9
    obtain ⟨v1, rfl, b1⟩ := i64_of (leaf_plain (hf 1 _ rfl) (by kernel_rfl)) Tryz.underlying3
    obtain ⟨v2, rfl, b2⟩ := u64_of (leaf_plain (hf 2 _ rfl) (by kernel_rfl)) Tryz.underlying27
    exact ⟨⟨v0, v1, v2, Am.zero, [], 0, 0⟩, rfl, ⟨b0, by simp, wf_u b2, by simp⟩, ⟨rfl, rfl, rfl, rfl⟩⟩
theorem hel_of {x : List Value} (h : LeavG (FieldB Tryz.prog) [9, 3, 27, 3] x) : ∃ e : El, x = helC e ∧ TxOk e ∧ helK e := by
  obtain ⟨hl, hf⟩ := h
  match x, hl with
  | [v0, v1, v2, v3], _ =>
    obtain ⟨v0, rfl, b0⟩ := str_of (leaf_plain (hf 0 _ rfl) (by kernel_rfl)) Tryz.underlying9
    obtain ⟨v1, rfl, b1⟩ := i64_of (leaf_plain (hf 1 _ rfl) (by kernel_rfl)) Tryz.underlying3
    obtain ⟨v2, rfl, b2⟩ := u64_of (leaf_plain (hf 2 _ rfl) (by kernel_rfl)) Tryz.underlying27
    obtain ⟨v3, rfl, b3⟩ := i64_of (leaf_plain (hf 3 _ rfl) (by kernel_rfl)) Tryz.underlying3
    exact ⟨⟨v0, v1, v2, Am.zero, [], v3, 0⟩, rfl, ⟨b0, by simp, wf_u b2, by simp⟩, ⟨rfl, rfl, rfl⟩⟩
theorem fin_of {x : List Value} (h : LeavG (FieldB Tryz.prog) [27, 9, 3, 27, 3] x) : ∃ e : El, x = finC e ∧ TxOk e ∧ finK e := by
  obtain ⟨hl, hf⟩ := h
  match x, hl with
  | [v0, v1, v2, v3, v4], _ =>
    obtain ⟨v0, rfl, b0⟩ := u64_of (leaf_plain (hf 0 _ rfl) (by kernel_rfl)) Tryz.underlying27
    obtain ⟨v1, rfl, b1⟩ := str_of (leaf_plain (hf 1 _ rfl) (by kernel_rfl)) Tryz.underlying9
    obtain ⟨v2, rfl, b2⟩ := i64_of (leaf_plain (hf 2 _ rfl) (by kernel_rfl)) Tryz.underlying3
    obtain ⟨v3, rfl, b3⟩ := u64_of (leaf_plain (hf 3 _ rfl) (by kernel_rfl)) Tryz.underlying27
    obtain ⟨v4, rfl, b4⟩ := i64_of (leaf_plain (hf 4 _ rfl) (by kernel_rfl)) Tryz.underlying3
    exact ⟨⟨v1, v2, v3, Am.zero, [], v4, v0⟩, rfl, ⟨b1, by simp, wf_u b3, wf_u b0⟩, ⟨rfl, rfl⟩⟩
theorem ref_of {x : List Value} (h : LeavG (FieldB Tryz.prog) [9, 3, 27, 24] x) : ∃ e : El, x = refC e ∧ TxOk e ∧ refK e := by
  obtain ⟨hl, hf⟩ := h
  match x, hl with
  | [v0, v1, v2, v3], _ =>
    obtain ⟨v0, rfl, b0⟩ := str_of (leaf_plain (hf 0 _ rfl) (by kernel_rfl)) Tryz.underlying9
    obtain ⟨v1, rfl, b1⟩ := i64_of (leaf_plain (hf 1 _ rfl) (by kernel_rfl)) Tryz.underlying3
    obtain ⟨v2, rfl, b2⟩ := u64_of (leaf_plain (hf 2 _ rfl) (by kernel_rfl)) Tryz.underlying27
    obtain ⟨v3, rfl, b3⟩ := i64_of (leaf_plain (hf 3 _ rfl) (by kernel_rfl)) Tryz.underlying24
    exact ⟨⟨v0, v1, v2, Am.zero, [], v3, 0⟩, rfl, ⟨b0, by simp, wf_u b2, by simp⟩, ⟨rfl, rfl, rfl⟩⟩
theorem poll_of {W : World} {x : List Value} (h : LeavG (LeafQ Tryz.prog W) [27, 27, 27, 2, 3, 28, 29, 30, 27] x) : ∃ (p : Po) (va vb vc : Value), x = poC p va vb vc ∧ PoW W p va vb vc := by
  obtain ⟨hl, hf⟩ := h
  match x, hl with
  | [v0, v1, v2, v3, v4, v5, v6, v7, v8], _ =>
    obtain ⟨v0, rfl, b0⟩ := u64_of (leafq_plain (hf 0 _ rfl) (by kernel_rfl)) Tryz.underlying27
    obtain ⟨v1, rfl, b1⟩ := u64_of (leafq_plain (hf 1 _ rfl) (by kernel_rfl)) Tryz.underlying27
    obtain ⟨v2, rfl, b2⟩ := u64_of (leafq_plain (hf 2 _ rfl) (by kernel_rfl)) Tryz.underlying27
    obtain ⟨v3, rfl, b3⟩ := i64_of (leafq_plain (hf 3 _ rfl) (by kernel_rfl)) Tryz.underlying2
    obtain ⟨v4, rfl, b4⟩ := i64_of (leafq_plain (hf 4 _ rfl) (by kernel_rfl)) Tryz.underlying3
    obtain ⟨L5, r5, q5⟩ := rows_q (Q := fun e => TxOk e ∧ envK e) (hf 5 _ rfl) Tryz.underlying28 (ls := [9, 2, 2, 2, 2]) (by kernel_rfl) (fun x hx => env_of hx)
    obtain ⟨L6, r6, q6⟩ := rows_q (Q := fun e => TxOk e ∧ staK e) (hf 6 _ rfl) Tryz.underlying29 (ls := [9, 3, 27, 2, 2, 2, 2, 9]) (by kernel_rfl) (fun x hx => sta_of hx)
    obtain ⟨L7, r7, q7⟩ := rows_q (Q := fun e => TxOk e ∧ stoK e) (hf 7 _ rfl) Tryz.underlying30 (ls := [9, 3, 27]) (by kernel_rfl) (fun x hx => sto_of hx)
    obtain ⟨v8, rfl, b8⟩ := u64_of (leafq_plain (hf 8 _ rfl) (by kernel_rfl)) Tryz.underlying27
    exact ⟨⟨v0, v1, v2, v3, v4, L5, L6, L7, v8⟩, v5, v6, v7, rfl, ⟨fun x hx => (q5 x hx).2, fun x hx => (q6 x hx).2, fun x hx => (q7 x hx).2, ⟨wf_u b0, wf_u b1, wf_u b2, wf_i b3, wf_i b4, wf_u b8⟩, r5, r6, r7, fun x hx => (q5 x hx).1, fun x hx => (q6 x hx).1, fun x hx => (q7 x hx).1⟩⟩
theorem report_of {W : World} {x : List Value} (h : LeavG (LeafQ Tryz.prog W) [27, 27, 27, 2, 40, 41, 42] x) : ∃ (p : Rp) (va vb vc : Value), x = rpC p va vb vc ∧ RpW W p va vb vc := by
  obtain ⟨hl, hf⟩ := h
  match x, hl with
  | [v0, v1, v2, v3, v4, v5, v6], _ =>
    obtain ⟨v0, rfl, b0⟩ := u64_of (leafq_plain (hf 0 _ rfl) (by kernel_rfl)) Tryz.underlying27
    obtain ⟨v1, rfl, b1⟩ := u64_of (leafq_plain (hf 1 _ rfl) (by kernel_rfl)) Tryz.underlying27
    obtain ⟨v2, rfl, b2⟩ := u64_of (leafq_plain (hf 2 _ rfl) (by kernel_rfl)) Tryz.underlying27
    obtain ⟨v3, rfl, b3⟩ := i64_of (leafq_plain (hf 3 _ rfl) (by kernel_rfl)) Tryz.underlying2
    obtain ⟨L4, r4, q4⟩ := rows_q (Q := fun e => TxOk e ∧ helK e) (hf 4 _ rfl) Tryz.underlying40 (ls := [9, 3, 27, 3]) (by kernel_rfl) (fun x hx => hel_of hx)
    obtain ⟨L5, r5, q5⟩ := rows_q (Q := fun e => TxOk e ∧ finK e) (hf 5 _ rfl) Tryz.underlying41 (ls := [27, 9, 3, 27, 3]) (by kernel_rfl) (fun x hx => fin_of hx)
    obtain ⟨L6, r6, q6⟩ := rows_q (Q := fun e => TxOk e ∧ refK e) (hf 6 _ rfl) Tryz.underlying42 (ls := [9, 3, 27, 24]) (by kernel_rfl) (fun x hx => ref_of hx)
    exact ⟨⟨v0, v1, v2, v3, L4, L5, L6⟩, v4, v5, v6, rfl, ⟨fun x hx => (q4 x hx).2, fun x hx => (q5 x hx).2, fun x hx => (q6 x hx).2, ⟨wf_u b0, wf_u b1, wf_u b2, wf_i b3⟩, r4, r5, r6, fun x hx => (q4 x hx).1, fun x hx => (q5 x hx).1, fun x hx => (q6 x hx).1⟩⟩
end Go.Proofs.YtopkfomlppnpeaaGreatDoor.Ms
