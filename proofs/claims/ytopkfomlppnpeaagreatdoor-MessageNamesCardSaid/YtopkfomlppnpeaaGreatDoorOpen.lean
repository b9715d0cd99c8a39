/- Open. -/
import Derived.Test.YtopkfomlppnpeaaGreatDoorLib
import Derived.OpenShut
import Derived.ShutString
import Derived.ChangeOld
import Derived.SizedLaws
namespace Go.Proofs.YtopkfomlppnpeaaGreatDoor
open Go.ChangeShapes Go.WideShapes Go.ChangeAt Go.RowKit
open Go.ChangeMaps (open_string shut_string)

theorem Tryz.ownKnobs : ownKnob Tryz.prog.godebug = none := by kernel_rfl
theorem Tryz.laidOut : laidOutB Tryz.prog = true := by kernel_rfl

/-- a slice of integers that came in: what it reads as, and that it is no greater than the form's reach -/
theorem open_nums {H : Type} {enc : TypeId × Value → H} {P : Program} {W : World} {t e : TypeId} {k : IntKind} {v : Value} {d : DataW H} {ps : List MemPlace} {r : Reach} {b0 : Nat} {ts : List TypeId} {ds : List (DataW H)} {j : Nat}
    (ht : P.underlying t = some (.slice e)) (he : P.underlying e = some (.int k)) (hc : P.cellsOf e = 1) (hval : Value.okWide P W r b0 t v) (h : DataW.Trod enc P W 0 (fun _ => true) true t v d ps)
    (hsz : (DataW.weightsEach P ts ds).all (· ≤ reachBytes) = true) (hj : ts[j]? = some t) (hd : ds[j]? = some d) :
    ∃ zs : List Int, Row W v 1 zs.length (zs.map (Value.int k)) ∧ (∀ n ∈ zs, (Lit.int k n).wf = true) ∧ zs.length * P.bytesOf e ≤ 140737488351232 := by
  obtain ⟨a0, len0, cap0, rfl⟩ := okWide_slice ht hval
  obtain ⟨fuel, hf⟩ := h
  rcases open_ints ht he hc hf with ⟨hcs, hx⟩ | ⟨x, l, c, zs, hcs, _, hl, hm, hz, hx, hcell, hwz⟩
  · simp [Value.cells] at hcs
    obtain ⟨rfl, rfl, rfl⟩ := hcs
    exact ⟨[], row_nil W 1, by simp, by simp⟩
  · simp [Value.cells] at hcs
    obtain ⟨rfl, rfl, rfl⟩ := hcs
    simp only [if_true] at hz
    have htl : (zs.take len0).length = len0 := by simp; omega
    refine ⟨zs.take len0, ⟨some x, cap0, by rw [htl], by rw [htl]; exact hl, hm, by simp, ?_, by simp, ?_⟩, fun n hn => hwz n (List.mem_of_mem_take hn), ?_⟩
    · intro u hu
      obtain ⟨n, _, rfl⟩ := List.mem_map.1 hu
      rfl
    · by_cases h0 : len0 = 0
      · left; subst h0; simp
      · right
        have hc0 := hcell 0 (by omega)
        have hsp : x.spot = none := by
          have e0 : x.add 0 = x := by simp [Addr.add]
          rw [e0] at hc0
          unfold World.cell? at hc0
          split at hc0
          · split at hc0
            · simp at hc0
            · rename_i h; simpa using h
          · simp at hc0
        obtain ⟨b, o, sp⟩ := x
        simp only at hsp
        subst hsp
        refine ⟨b, o, rfl, fun i u hi => ?_⟩
        rw [← add_off]
        have hi2 : i < zs.length := by
          have := (List.getElem?_eq_some_iff.1 hi).1
          simp at this; omega
        rw [hcell i hi2]
        have hi1 : i < len0 := by
          have := (List.getElem?_eq_some_iff.1 hi).1
          simp at this; omega
        rw [List.getElem?_map, List.getElem?_take, if_pos hi1, List.getElem?_eq_getElem hi2] at hi
        simp at hi
        rw [← hi]
        simp [List.getD, hi2]
    · simp only [Prod.mk.injEq] at hx
      have hd' := hx.1
      subst hd'
      have := sized_slice hsz hj hd ht
      rw [htl]
      have h2 : (lits (H := H) k (zs.take len0)).length + (lits (H := H) k (zs.drop len0)).length = cap0 := by
        simp [lits]; omega
      rw [h2] at this
      have h3 : len0 * P.bytesOf e ≤ cap0 * P.bytesOf e := Nat.mul_le_mul_right _ hl
      have h4 : reachBytes = 140737488351232 := by decide
      omega

theorem u8_wf {n : Int} (h : (Lit.int .u8 n).wf = true) : 0 ≤ n ∧ n ≤ 255 := by
  simpa [Lit.wf, IntKind.min, IntKind.max, IntKind.signed, IntKind.bits] using h
theorem i64_wf {n : Int} (h : (Lit.int .i64 n).wf = true) : -9223372036854775808 ≤ n ∧ n ≤ 9223372036854775807 := by
  simpa [Lit.wf, IntKind.min, IntKind.max, IntKind.signed, IntKind.bits] using h
theorem u64_wf {n : Int} (h : (Lit.int .u64 n).wf = true) : 0 ≤ n ∧ n ≤ 18446744073709551615 := by
  simpa [Lit.wf, IntKind.min, IntKind.max, IntKind.signed, IntKind.bits] using h

/-- a slice of bytes that came in -/
theorem open_bytes {H : Type} {enc : TypeId × Value → H} {P : Program} {W : World} {t e : TypeId} {v : Value} {d : DataW H} {ps : List MemPlace} {r : Reach} {b0 : Nat} {ts : List TypeId} {ds : List (DataW H)} {j : Nat}
    (ht : P.underlying t = some (.slice e)) (he : P.underlying e = some (.int .u8)) (hc : P.cellsOf e = 1) (hb : P.bytesOf e = 1) (hval : Value.okWide P W r b0 t v) (h : DataW.Trod enc P W 0 (fun _ => true) true t v d ps)
    (hsz : (DataW.weightsEach P ts ds).all (· ≤ reachBytes) = true) (hj : ts[j]? = some t) (hd : ds[j]? = some d) :
    ∃ l : List UInt8, Rd W v l ∧ l.length ≤ 140737488351232 := by
  obtain ⟨zs, hr, hwf, hl⟩ := open_nums ht he hc hval h hsz hj hd
  refine ⟨zs.map fun n => UInt8.ofNat n.toNat, ?_, by simpa [hb] using hl⟩
  have e : (zs.map fun n => UInt8.ofNat n.toNat).map B = zs.map (Value.int .u8) := by
    rw [List.map_map]
    refine List.map_congr_left fun n hn => ?_
    have := u8_wf (hwf n hn)
    simp
    omega
  unfold Rd
  rw [e, List.length_map]
  exact hr

theorem open_str {H : Type} {enc : TypeId × Value → H} {P : Program} {W : World} {t : TypeId} {v : Value} {d : DataW H} {ps : List MemPlace} {r : Reach} {b0 : Nat} {ts : List TypeId} {ds : List (DataW H)} {j : Nat}
    (ht : P.underlying t = some .string) (hval : Value.okWide P W r b0 t v) (h : DataW.Trod enc P W 0 (fun _ => true) true t v d ps)
    (hsz : (DataW.weightsEach P ts ds).all (· ≤ reachBytes) = true) (hj : ts[j]? = some t) (hd : ds[j]? = some d) :
    ∃ s : ByteArray, v = .string s ∧ d = .lit (.string s.data.toList) ∧ ps = [] ∧ s.size ≤ maxLen ∧ s.size ≤ 140737488351232 := by
  obtain ⟨s, rfl, rfl, rfl, h2⟩ := open_string ht hval h
  have := sized_string hsz hj hd
  have h4 : reachBytes = 140737488351232 := by decide
  have h5 : s.data.toList.length = s.size := by simp
  exact ⟨s, rfl, rfl, rfl, h2, by omega⟩

end Go.Proofs.YtopkfomlppnpeaaGreatDoor
