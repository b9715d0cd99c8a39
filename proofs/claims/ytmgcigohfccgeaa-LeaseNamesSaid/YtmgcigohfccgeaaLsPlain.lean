/- The rows of a lease's table, in plain Lean. -/
import Derived.Test.YtmgcigohfccgeaaLTab
import Derived.Test.YtmgcigohfccgeaaByteOrd
namespace Go.Proofs.Ytmgcigohfccgeaa
open Go.RowKit

/-- a machine, and what was heard of it -/
structure Hr where
  n : ByteArray
  b : Int
  m : Int
  a : Int
namespace Hr
def key (e : Hr) : List UInt8 := e.n.data.toList
end Hr
abbrev hrV (e : Hr) : Value := hv e.b e.m e.a
abbrev hrC (e : Hr) : List Value := [.string e.n, .int .u64 e.b, .int .i64 e.m, .int .i64 e.a]
def hrsC (L : List Hr) : List Value := L.flatMap fun e => hrC e
def hrM (L : List Hr) : SM := L.map fun e => (e.key, hrV e)

def hfd (L : List Hr) (s : List UInt8) : Option Hr := L.find? fun e => e.key == s
def hrem (L : List Hr) (s : List UInt8) : List Hr := L.filter fun e => !(e.key == s)
def insR (x : Hr) : List Hr → List Hr
  | [] => [x]
  | y :: r => if bytesBefore x.key y.key then x :: y :: r else y :: insR x r
def putR (L : List Hr) (x : Hr) : List Hr := insR x (hrem L x.key)

theorem hrM_get (L : List Hr) (s : List UInt8) : (hrM L).get s = (hfd L s).map hrV := by
  unfold hrM SM.get hfd
  rw [List.find?_map]
  cases h : L.find? (fun e => e.key == s) with
  | none =>
    have : L.find? ((fun p : List UInt8 × Value => p.1 == s) ∘ fun e => (e.key, hrV e)) = none := h
    rw [this]; rfl
  | some e =>
    have : L.find? ((fun p : List UInt8 × Value => p.1 == s) ∘ fun e => (e.key, hrV e)) = some e := h
    rw [this]; rfl
theorem hrM_has (L : List Hr) (s : List UInt8) : (hrM L).hasK s = (hfd L s).isSome := by
  unfold hrM SM.hasK hfd
  rw [List.any_map]
  induction L with
  | nil => rfl
  | cons e L ih =>
    simp only [List.any_cons, List.find?_cons, Function.comp]
    cases h : (e.key == s)
    · simpa using ih
    · simp
theorem hrM_del (L : List Hr) (s : List UInt8) : (hrM L).del s = hrM (hrem L s) := by
  unfold hrM SM.del hrem
  rw [List.filter_map]
  rfl
theorem hrM_ins (x : Hr) : ∀ L : List Hr, SM.ins x.key (hrV x) (hrM L) = hrM (insR x L)
  | [] => rfl
  | y :: L => by
    have ih := hrM_ins x L
    unfold hrM at *
    simp only [List.map_cons, SM.ins, insR]
    split
    · rfl
    · rw [ih]; rfl
theorem hrM_put (L : List Hr) (x : Hr) : (hrM L).put x.key (hrV x) = hrM (putR L x) := by
  unfold SM.put putR
  rw [hrM_del, hrM_ins]
theorem hrM_len (L : List Hr) : (hrM L).length = L.length := by simp [hrM]

theorem insR_mem (x : Hr) : ∀ (L : List Hr) (e : Hr), e ∈ insR x L ↔ e = x ∨ e ∈ L
  | [], e => by simp [insR]
  | y :: L, e => by
    unfold insR
    split
    · simp
    · have := insR_mem x L e
      simp only [List.mem_cons, this]
      constructor
      · rintro (h | h | h)
        · exact .inr (.inl h)
        · exact .inl h
        · exact .inr (.inr h)
      · rintro (h | h | h)
        · exact .inr (.inl h)
        · exact .inl h
        · exact .inr (.inr h)
theorem putR_mem (L : List Hr) (x e : Hr) : e ∈ putR L x ↔ e = x ∨ (e ∈ L ∧ e.key ≠ x.key) := by
  unfold putR hrem
  rw [insR_mem, List.mem_filter]
  simp

/-- keys are told apart -/
def HApart (L : List Hr) : Prop := L.Pairwise fun x y => x.key ≠ y.key
theorem hfd_mem {L : List Hr} {s : List UInt8} {e : Hr} (h : hfd L s = some e) : e ∈ L ∧ e.key = s := by
  unfold hfd at h
  exact ⟨List.mem_of_find?_eq_some h, by simpa using List.find?_some h⟩
theorem hfd_none {L : List Hr} {s : List UInt8} (h : hfd L s = none) : ∀ e ∈ L, e.key ≠ s := by
  unfold hfd at h
  intro e he
  have := List.find?_eq_none.1 h e he
  simpa using this
theorem hfd_of {L : List Hr} (hd : HApart L) {e : Hr} (he : e ∈ L) : hfd L e.key = some e := by
  induction L with
  | nil => cases he
  | cons y L ih =>
    unfold HApart at hd
    rw [List.pairwise_cons] at hd
    unfold hfd at *
    simp only [List.find?_cons]
    rcases List.mem_cons.1 he with rfl | h
    · simp
    · have : (y.key == e.key) = false := by simpa using hd.1 e h
      rw [this]
      exact ih hd.2 h

def HRise (L : List Hr) : Prop := L.Pairwise fun x y => x.key < y.key
theorem HRise.apart {L : List Hr} (h : HRise L) : HApart L := by
  unfold HRise at h
  unfold HApart
  exact h.imp fun {a b} k e => by rw [e] at k; exact lt_irr _ k
theorem HRise.keys {L : List Hr} (h : HRise L) : (L.map Hr.key).Pairwise (· < ·) := by
  rw [List.pairwise_map]
  exact h
theorem HRise.rem {L : List Hr} (h : HRise L) (s : List UInt8) : HRise (hrem L s) := List.Pairwise.filter _ h
theorem hrem_no (L : List Hr) (s : List UInt8) : ∀ e ∈ hrem L s, e.key ≠ s := by
  intro e he
  unfold Go.Proofs.Ytmgcigohfccgeaa.hrem at he
  rw [List.mem_filter] at he
  simpa using he.2
theorem HRise.ins {x : Hr} : ∀ {L : List Hr}, HRise L → (∀ e ∈ L, e.key ≠ x.key) → HRise (insR x L)
  | [], _, _ => by simp [insR, HRise]
  | y :: L, h, hn => by
    unfold HRise at *
    rw [List.pairwise_cons] at h
    unfold insR
    split
    · rename_i hb
      have hxy := (before_lt _ _).1 hb
      rw [List.pairwise_cons, List.pairwise_cons]
      refine ⟨fun e he => ?_, h⟩
      rcases List.mem_cons.1 he with rfl | he
      · exact hxy
      · exact lt_tr hxy (h.1 e he)
    · rename_i hb
      have hyx : y.key < x.key := lt_tot (fun h => hb ((before_lt _ _).2 h)) (fun e => hn y (by simp) e.symm)
      rw [List.pairwise_cons]
      refine ⟨fun e he => ?_, HRise.ins h.2 (fun e he => hn e (by simp [he]))⟩
      rcases (insR_mem x L e).1 he with rfl | he
      · exact hyx
      · exact h.1 e he
theorem HRise.put {L : List Hr} (h : HRise L) (x : Hr) : HRise (putR L x) := HRise.ins (h.rem _) (hrem_no L _)
theorem hrM_size (L : List Hr) : Go.Maps.size (hrM L).dat = L.length := by simp [SM.dat, Go.Maps.size, hrM]
theorem strKeys_hr (L : List Hr) : Go.strKeys (hrM L).dat = L.map Hr.key := by
  simp [SM.dat, Go.strKeys, hrM, SM.ent, List.map_map, Function.comp_def]
  intro a _
  rfl

/-! what the calls answer and leave -/
structure Ls where
  wait : Int
  now : Int
  R : List Hr
/-- between two calls -/
structure LsI (k : Nat) (x : Ls) : Prop where
  rise : HRise x.R
  len : x.R.length ≤ k
  wait : 2 ≤ x.wait ∧ x.wait ≤ 1099511627776
  now : 0 ≤ x.now ∧ x.now ≤ (k : Int) * 1048576
  seen : ∀ e ∈ x.R, 0 ≤ e.a ∧ e.a ≤ x.now
  size : ∀ e ∈ x.R, e.n.size ≤ maxLen
def lsAdd (x : Ls) (s : ByteArray) : Int × Ls :=
  if s.toList.isEmpty then (2, x) else if (hfd x.R s.data.toList).isSome then (7, x) else (0, { x with R := putR x.R ⟨s, 0, 0, x.now⟩ })
def lsHeard (x : Ls) (s : ByteArray) (bt nw : Int) : Int × Ls :=
  match hfd x.R s.data.toList with
  | none => (6, x)
  | some h => if bt = 0 ∨ nw < 0 then (2, x) else if bt < h.b ∨ (bt = h.b ∧ nw < h.m) then (11, x) else (0, { x with R := putR x.R ⟨s, bt, nw, x.now⟩ })
def lsTick (x : Ls) (n : Int) : Int × Ls := if n < 0 ∨ 1048576 < n then (2, x) else (0, { x with now := x.now + n })
def lsLeftOf (x : Ls) (h : Hr) : Int := max 0 (h.a + x.wait - x.now)
def lsEcho (x : Ls) (s : ByteArray) : Int × Int × Int := match hfd x.R s.data.toList with
  | none => (0, 0, 6)
  | some h => (h.b, h.m, 0)
def lsLeft (x : Ls) (s : ByteArray) : Int × Int := match hfd x.R s.data.toList with
  | none => (0, 6)
  | some h => (lsLeftOf x h, 0)
def lsSure (x : Ls) (s : ByteArray) : Bool × Int := match hfd x.R s.data.toList with
  | none => (false, 6)
  | some h => (lsLeftOf x h == 0, 0)
def lsNames (x : Ls) : List ByteArray := x.R.map (·.n)
def lsOver (x : Ls) : List ByteArray := (x.R.filter fun h => lsLeftOf x h == 0).map (·.n)
theorem insR_len (x : Hr) : ∀ L : List Hr, (insR x L).length = L.length + 1
  | [] => rfl
  | y :: L => by
    unfold insR
    split
    · simp
    · simp [insR_len x L]
theorem putR_len (L : List Hr) (x : Hr) : (putR L x).length ≤ L.length + 1 := by
  unfold putR hrem
  rw [insR_len]
  have := List.length_filter_le (fun e : Hr => !(e.key == x.key)) L
  omega
theorem LsI.mono {k : Nat} {x : Ls} (h : LsI k x) : LsI (k + 1) x := ⟨h.rise, Nat.le_succ_of_le h.len, h.wait, ⟨h.now.1, by have := h.now.2; push_cast; omega⟩, h.seen, h.size⟩
theorem LsI.put {k : Nat} {x : Ls} (h : LsI k x) (s : ByteArray) (hs : s.size ≤ maxLen) (b m : Int) : LsI (k + 1) { x with R := putR x.R ⟨s, b, m, x.now⟩ } := by
  refine ⟨h.rise.put _, ?_, h.wait, h.mono.now, fun e he => ?_, fun e he => ?_⟩
  · have := putR_len x.R ⟨s, b, m, x.now⟩
    have := h.len
    show (putR _ _).length ≤ _
    omega
  · rcases (putR_mem _ _ _).1 he with rfl | h1
    · exact ⟨h.now.1, Int.le_refl _⟩
    · exact h.seen e h1.1
  · rcases (putR_mem _ _ _).1 he with rfl | h1
    · exact hs
    · exact h.size e h1.1
theorem LsI.add {k : Nat} {x : Ls} (h : LsI k x) (s : ByteArray) (hs : s.size ≤ maxLen) : LsI (k + 1) (lsAdd x s).2 := by
  unfold lsAdd
  split
  · exact h.mono
  · split
    · exact h.mono
    · exact h.put s hs 0 0
theorem LsI.heard {k : Nat} {x : Ls} (h : LsI k x) (s : ByteArray) (hs : s.size ≤ maxLen) (bt nw : Int) : LsI (k + 1) (lsHeard x s bt nw).2 := by
  unfold lsHeard
  split
  · exact h.mono
  · split
    · exact h.mono
    · split
      · exact h.mono
      · exact h.put s hs bt nw
theorem LsI.tick {k : Nat} {x : Ls} (h : LsI k x) (n : Int) : LsI (k + 1) (lsTick x n).2 := by
  unfold lsTick
  split
  · exact h.mono
  · rename_i hn
    refine ⟨h.rise, Nat.le_succ_of_le h.len, h.wait, ?_, fun e he => ?_, h.size⟩
    · have := h.now
      constructor
      · show 0 ≤ x.now + n
        omega
      · show x.now + n ≤ _
        push_cast
        omega
    · have := h.seen e he
      refine ⟨this.1, ?_⟩
      show e.a ≤ x.now + n
      omega
theorem LsI.new (wait : Int) (h : 2 ≤ wait ∧ wait ≤ 1099511627776) : LsI 0 ⟨wait, 0, []⟩ := ⟨List.Pairwise.nil, Nat.le_refl _, h, ⟨Int.le_refl _, by simp⟩, (fun _ h => absurd h List.not_mem_nil), (fun _ h => absurd h List.not_mem_nil)⟩
end Go.Proofs.Ytmgcigohfccgeaa
