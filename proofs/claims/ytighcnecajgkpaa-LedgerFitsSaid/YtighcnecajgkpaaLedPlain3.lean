/- Entries by rising name. -/
import Derived.Test.YtighcnecajgkpaaLedPlain2
import Derived.Test.YtighcnecajgkpaaByteOrd
namespace Go.Proofs.Ytighcnecajgkpaa
open Go.RowKit

def Rise (L : List Ent) : Prop := L.Pairwise fun x y => x.key < y.key
theorem Rise.apart {L : List Ent} (h : Rise L) : Apart L := by
  unfold Rise at h
  unfold Apart
  exact h.imp fun {a b} k e => by rw [e] at k; exact lt_irr _ k
theorem Rise.keys {L : List Ent} (h : Rise L) : (L.map Ent.key).Pairwise (· < ·) := by
  rw [List.pairwise_map]
  exact h
theorem Rise.rem {L : List Ent} (h : Rise L) (s : List UInt8) : Rise (rem L s) := List.Pairwise.filter _ h
theorem rem_no (L : List Ent) (s : List UInt8) : ∀ e ∈ rem L s, e.key ≠ s := by
  intro e he
  unfold Go.Proofs.Ytighcnecajgkpaa.rem at he
  rw [List.mem_filter] at he
  simpa using he.2
theorem Rise.ins {x : Ent} : ∀ {L : List Ent}, Rise L → (∀ e ∈ L, e.key ≠ x.key) → Rise (insE x L)
  | [], _, _ => by simp [insE, Rise]
  | y :: L, h, hn => by
    unfold Rise at *
    rw [List.pairwise_cons] at h
    unfold insE
    split
    · rename_i hb
      have hxy := (before_lt _ _).1 hb
      rw [List.pairwise_cons, List.pairwise_cons]
      refine ⟨fun e he => ?_, h⟩
      rcases List.mem_cons.1 he with rfl | he
      · exact hxy
      · exact lt_tr hxy (h.1 e he)
    · rename_i hb
      have hyx : y.key < x.key := lt_tot (fun h => hb ((before_lt _ _).2 h)) (fun e => hn y (by simp) e.symm)
      rw [List.pairwise_cons]
      refine ⟨fun e he => ?_, Rise.ins h.2 (fun e he => hn e (by simp [he]))⟩
      rcases (insE_mem x L e).1 he with rfl | he
      · exact hyx
      · exact h.1 e he
theorem Rise.put {L : List Ent} (h : Rise L) (x : Ent) : Rise (putE L x) := Rise.ins (h.rem _) (rem_no L _)
theorem entM_keys (L : List Ent) : Go.Maps.size (entM L).dat = L.length := by simp [SM.dat, Go.Maps.size, entM]
theorem strKeys_ent (L : List Ent) : Go.strKeys (entM L).dat = L.map Ent.key := by
  simp [SM.dat, Go.strKeys, entM, SM.ent, List.map_map, Function.comp_def]
  intro a _
  rfl
end Go.Proofs.Ytighcnecajgkpaa
