/- Open, IRows, Open2, Open3. -/
import Derived.Test.YtdemkfhkibmbnaaGreatDoorM01
import Derived.OpenShut
import Derived.ShutString
import Derived.ChangeOld
import Derived.SizedLaws
import Derived.Deep.Matrix
import Derived.Deep.Fields
namespace Go.Proofs.YtdemkfhkibmbnaaGreatDoor
open Go.ChangeShapes Go.WideShapes Go.ChangeAt Go.RowKit
open Go.ChangeMaps (open_string shut_string)
theorem Tryz.laidOut : laidOutB Tryz.prog = true := by kernel_rfl
theorem open_str {H : Type} {enc : TypeId × Value → H} {P : Program} {W : World} {t : TypeId} {v : Value} {d : DataW H} {ps : List MemPlace} {r : Reach} {b0 : Nat} {ts : List TypeId} {ds : List (DataW H)} {j : Nat}
  (ht : P.underlying t = some .string) (hval : Value.okWide P W r b0 t v) (h : DataW.Trod enc P W 0 (fun _ => true) true t v d ps)
  (hsz : (DataW.weightsEach P ts ds).all (· ≤ reachBytes) = true) (hj : ts[j]? = some t) (hd : ds[j]? = some d) :
  ∃ s : ByteArray, v = .string s ∧ d = .lit (.string s.data.toList) ∧ ps = [] ∧ s.size ≤ maxLen ∧ s.size ≤ 140737488351232 := by
 obtain ⟨s, rfl, rfl, rfl, h2⟩ := open_string ht hval h; have := sized_string hsz hj hd; have h4 : reachBytes = 140737488351232 := by decide
 have h5 : s.data.toList.length = s.size := by simp
 exact ⟨s, rfl, rfl, rfl, h2, by omega⟩
end Go.Proofs.YtdemkfhkibmbnaaGreatDoor
namespace Go.Proofs.YtdemkfhkibmbnaaGreatDoor
open Go.RowKit
theorem row_block {w : World} {g : Nat} {us : List Value} {e : TypeId} {fr : Nat × Nat} (hg : w.heap[g]? = some (.cells us.toArray e fr)) (hm : us.length ≤ maxLen) (h1 : ∀ u ∈ us, u.oneCell' = true) : Row w (.slice (some ⟨g, 0, none⟩) us.length us.length) 1 us.length us := by
 refine ⟨some ⟨g, 0, none⟩, us.length, rfl, Nat.le_refl _, hm, by simp, h1, by simp, .inr ⟨g, 0, rfl, fun j u hj => ?_⟩⟩; rw [cell_of_row w g (0 + j) us.toArray e fr hg]
 simpa using hj
end Go.Proofs.YtdemkfhkibmbnaaGreatDoor
namespace Go.Proofs.YtdemkfhkibmbnaaGreatDoor
open Go.ChangeShapes Go.WideShapes Go.ChangeAt Go.RowKit
theorem spot_none {W : World} {x : Addr} {u : Value} (h : W.cell? x = some u) : x.spot = none := by
 unfold World.cell? at h
 split at h
 ·split at h
  ·simp at h
  ·rename_i hh; simpa using hh
 ·simp at h
def fieldOk (P : Program) (t : TypeId) (v : Value) : Prop :=
 (∃ k, P.underlying t = some (.int k) ∧ ∃ n, v = .int k n ∧ (Lit.int k n).wf = true) ∨ (P.underlying t = some .string ∧ ∃ s, v = .string s ∧ s.size ≤ maxLen) ∨ (P.underlying t = some .bool ∧ ∃ b, v = .bool b)
theorem fieldOk.int {P : Program} {t : TypeId} {v : Value} {k : IntKind} (h : fieldOk P t v) (ht : P.underlying t = some (.int k)) : ∃ n, v = .int k n ∧ (Lit.int k n).wf = true := by
 rcases h with ⟨k', h1, h2⟩ | ⟨h1, -⟩ | ⟨h1, -⟩
 ·rw [ht] at h1; cases h1; exact h2
 ·rw [ht] at h1; cases h1
 ·rw [ht] at h1; cases h1
theorem fieldOk.str {P : Program} {t : TypeId} {v : Value} (h : fieldOk P t v) (ht : P.underlying t = some .string) : ∃ s, v = .string s ∧ s.size ≤ maxLen := by
 rcases h with ⟨k', h1, h2⟩ | ⟨h1, h2⟩ | ⟨h1, -⟩
 ·rw [ht] at h1; cases h1
 ·exact h2
 ·rw [ht] at h1; cases h1
theorem fieldOk.bool {P : Program} {t : TypeId} {v : Value} (h : fieldOk P t v) (ht : P.underlying t = some .bool) : ∃ b, v = .bool b := by
 rcases h with ⟨k', h1, h2⟩ | ⟨h1, h2⟩ | ⟨h1, h2⟩
 ·rw [ht] at h1; cases h1
 ·rw [ht] at h1; cases h1
 ·exact h2
theorem fieldOk.one {P : Program} {t : TypeId} {v : Value} (h : fieldOk P t v) : v.oneCell' = true := by
 rcases h with ⟨k', h1, n, rfl, -⟩ | ⟨h1, s, rfl, -⟩ | ⟨h1, b, rfl⟩ <;> rfl
def plainType (P : Program) (t : TypeId) : Bool := match P.underlying t with
 | some (.int _) => true
 | some .string => true
 | some .bool => true
 | _ => false
section
variable {H : Type} {enc : TypeId × Value → H} {P : Program} {W : World} {base : Nat} {sp : Nat → Bool} {held : Bool}
theorem field_of_trod {t : TypeId} {n : Nat} {v : Value} {y : DataW H × List MemPlace} (hp : plainType P t = true) (h : DataW.trod enc P W base sp held n t [v] = some y) : fieldOk P t v := by
 unfold plainType at hp
 split at hp
 ·rename_i k hk
  obtain ⟨m, h1, -, h2⟩ := DataW.trod_int hk h; simp only [List.cons.injEq, and_true] at h1; exact .inl ⟨k, hk, m, h1, h2⟩
 ·rename_i hk
  obtain ⟨s, h1, -, h2⟩ := DataW.trod_string hk h; simp only [List.cons.injEq, and_true] at h1; exact .inr (.inl ⟨hk, s, h1, h2⟩)
 ·rename_i hk
  obtain ⟨b, h1, -⟩ := DataW.trod_bool hk h; simp only [List.cons.injEq, and_true] at h1; exact .inr (.inr ⟨hk, b, h1⟩)
 ·cases hp
end
theorem flatten_get {α : Type} {s : Nat} (hs : 0 < s) : ∀ (l : List (List α)), (∀ x ∈ l, x.length = s) → ∀ j, l.flatten[j]? = (l[j / s]?).bind fun x => x[j % s]?
 | [], _, j => by simp
 | x :: l, h, j => by
  have hx := h x (by simp); rw [List.flatten_cons]
  by_cases hj : j < s
  ·rw [List.getElem?_append_left (by omega), Nat.div_eq_of_lt hj, Nat.mod_eq_of_lt hj]
   simp
  ·obtain ⟨k, rfl⟩ : ∃ k, j = s + k := ⟨j - s, by omega⟩
   rw [List.getElem?_append_right (by omega), hx, Nat.add_sub_cancel_left, flatten_get hs l (fun y hy => h y (by simp [hy])) k]; rw [Nat.add_div_left k hs, Nat.add_mod_left]
   simp
theorem flatten_len {α : Type} {s : Nat} : ∀ (l : List (List α)), (∀ x ∈ l, x.length = s) → l.flatten.length = l.length * s
 | [], _ => by simp
 | x :: l, h => by
  rw [List.flatten_cons, List.length_append, h x (by simp), flatten_len l (fun y hy => h y (by simp [hy])), List.length_cons, Nat.add_mul]
  omega
