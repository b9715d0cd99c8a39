/- Adding, taking away, in plain Lean; slices of one and two amounts. -/
import Derived.Test.YtmgbailpmcggiaaTwo
namespace Go.Proofs.Ytmgbailpmcggiaa
open Go.RowKit

theorem Am.ext_get {x y : Am} (h : ∀ k, k < 4 → x.get k = y.get k) : x = y := by
  cases x; cases y
  have h0 := h 0 (by omega)
  have h1 := h 1 (by omega)
  have h2 := h 2 (by omega)
  have h3 := h 3 (by omega)
  simp only [Am.get] at h0 h1 h2 h3
  rw [h0, h1, h2, h3]
/-- of a number for each -/
def Am.of (f : Nat → Int) : Am := ⟨f 0, f 1, f 2, f 3⟩
theorem Am.of_get (f : Nat → Int) (k : Nat) (hk : k < 4) : (Am.of f).get k = f k := by
  match k, hk with
  | 0, _ => rfl
  | 1, _ => rfl
  | 2, _ => rfl
  | 3, _ => rfl
  | n + 4, h => omega
/-- does one of the four meet a test? -/
def any4 (f : Nat → Bool) : Bool := f 0 || f 1 || f 2 || f 3
theorem any4_yes {f : Nat → Bool} {k : Nat} (hk : k < 4) (h : f k = true) : any4 f = true := by
  unfold any4
  match k, hk with
  | 0, _ => simp [h]
  | 1, _ => simp [h]
  | 2, _ => simp [h]
  | 3, _ => simp [h]
  | n + 4, hk => omega
theorem any4_no {f : Nat → Bool} (h : ∀ k, k < 4 → f k = false) : any4 f = false := by
  unfold any4
  rw [h 0 (by omega), h 1 (by omega), h 2 (by omega), h 3 (by omega)]
  rfl
theorem any4_false {f : Nat → Bool} (h : any4 f = false) {k : Nat} (hk : k < 4) : f k = false := by
  cases hf : f k
  · rfl
  · rw [any4_yes hk hf] at h; cases h

def addR (x y : Am) : Am × Int :=
  if (x.okB && y.okB) = false then (.zero, 2) else if any4 (fun k => decide (1099511627776 < x.get k + y.get k)) = true then (.zero, 9) else (.of fun k => x.get k + y.get k, 0)
def fitsB (x y : Am) : Bool := !any4 (fun k => decide (y.get k < x.get k))
def subR (x y : Am) : Am × Int :=
  if (x.okB && y.okB) = false then (.zero, 2) else if fitsB y x = false then (.zero, 14) else (.of fun k => x.get k - y.get k, 0)
theorem addR_bad {x y : Am} (h : (x.okB && y.okB) = false) : addR x y = (.zero, 2) := by unfold addR; rw [if_pos h]
theorem addR_over {x y : Am} (h : (x.okB && y.okB) = true) {k : Nat} (hk : k < 4) (ho : 1099511627776 < x.get k + y.get k) : addR x y = (.zero, 9) := by
  unfold addR; rw [if_neg (by rw [h]; decide), if_pos (any4_yes hk (by simpa using ho))]
theorem addR_ok {x y z : Am} (h : (x.okB && y.okB) = true) (ho : ∀ k, k < 4 → x.get k + y.get k ≤ 1099511627776) (hz : ∀ k, k < 4 → z.get k = x.get k + y.get k) : addR x y = (z, 0) := by
  unfold addR
  rw [if_neg (by rw [h]; decide), if_neg (by rw [any4_no (fun k hk => by have := ho k hk; simpa using this)]; decide)]
  congr 1
  exact Am.ext_get fun k hk => by rw [Am.of_get _ k hk, hz k hk]
theorem subR_bad {x y : Am} (h : (x.okB && y.okB) = false) : subR x y = (.zero, 2) := by unfold subR; rw [if_pos h]
theorem subR_fit {x y : Am} (h : (x.okB && y.okB) = true) (hf : fitsB y x = false) : subR x y = (.zero, 14) := by
  unfold subR; rw [if_neg (by rw [h]; decide), if_pos hf]
theorem subR_ok {x y z : Am} (h : (x.okB && y.okB) = true) (hf : fitsB y x = true) (hz : ∀ k, k < 4 → z.get k = x.get k - y.get k) : subR x y = (z, 0) := by
  unfold subR
  rw [if_neg (by rw [h]; decide), if_neg (by rw [hf]; decide)]
  congr 1
  exact Am.ext_get fun k hk => by rw [Am.of_get _ k hk, hz k hk]

theorem ok_get {x : Am} (h : x.okB = true) {k : Nat} (hk : k < 4) : 0 ≤ x.get k ∧ x.get k ≤ 1099511627776 := (Am.okB_iff x).1 h k hk

theorem amsC_one (xs : List Am) : ∀ u ∈ amsC xs, u.oneCell' = true := by
  intro u hu
  obtain ⟨x, -, hx⟩ := List.mem_flatMap.1 hu
  simp only [List.mem_cons, List.not_mem_nil, or_false] at hx
  rcases hx with rfl | rfl | rfl | rfl <;> rfl
theorem ams_block {w : World} {g : Nat} {xs : List Am} {e : TypeId} {fr : Nat × Nat} (hg : w.heap[g]? = some (.cells (amsC xs).toArray e fr)) (hm : xs.length ≤ maxLen) : Ams w (.slice (some ⟨g, 0, none⟩) xs.length xs.length) xs := by
  refine ⟨_, _, rfl, Nat.le_refl _, hm, amsC_length xs, amsC_one xs, by simp, .inr ⟨g, 0, rfl, fun j u hj => ?_⟩⟩
  rw [cell_of_row w g (0 + j) _ _ _ hg]
  simpa using hj
theorem ams_two (w : World) (x y : Am) : Ams (w.alloc (.cells #[.int .i64 x.c, .int .i64 x.r, .int .i64 x.d, .int .i64 x.p, .int .i64 y.c, .int .i64 y.r, .int .i64 y.d, .int .i64 y.p] 28)) (.slice (some ⟨w.heap.size, 0, none⟩) 2 2) [x, y] :=
  ams_block (xs := [x, y]) (heap_alloc_new w _) (by simp [maxLen])
theorem ams_one (w : World) (x : Am) : Ams (w.alloc (.cells #[.int .i64 x.c, .int .i64 x.r, .int .i64 x.d, .int .i64 x.p] 28)) (.slice (some ⟨w.heap.size, 0, none⟩) 1 1) [x] :=
  ams_block (xs := [x]) (heap_alloc_new w _) (by simp [maxLen])
theorem all_two (w : World) (x y : Am) : Calls Try.prog 39 #[.slice (some ⟨w.heap.size, 0, none⟩) 2 2] (w.alloc (.cells #[.int .i64 x.c, .int .i64 x.r, .int .i64 x.d, .int .i64 x.p, .int .i64 y.c, .int .i64 y.r, .int .i64 y.d, .int .i64 y.p] 28)) fun e w' => e = .returned (.bool (x.okB && y.okB)) ∧ Below w.heap.size w w' :=
  (all_any _ [x, y] _ (ams_two w x y)).mono fun e w' ⟨h1, h2⟩ => ⟨by rw [h1]; simp [allB], below_and (below_alloc w _) h2⟩
theorem all_one (w : World) (x : Am) : Calls Try.prog 39 #[.slice (some ⟨w.heap.size, 0, none⟩) 1 1] (w.alloc (.cells #[.int .i64 x.c, .int .i64 x.r, .int .i64 x.d, .int .i64 x.p] 28)) fun e w' => e = .returned (.bool x.okB) ∧ Below w.heap.size w w' :=
  (all_any _ [x] _ (ams_one w x)).mono fun e w' ⟨h1, h2⟩ => ⟨by rw [h1]; simp [allB], below_and (below_alloc w _) h2⟩
end Go.Proofs.Ytmgbailpmcggiaa
