/- Reading amounts' text, in plain Lean. -/
import Derived.Test.YtmgecehdicpjnaaDoorPart
namespace Go.Proofs.YtmgecehdicpjnaaDoor
open Go.RowKit

theorem splitd_none {d : UInt8} : ∀ {l : List UInt8}, (∀ k : Nat, l[k]? ≠ some d) → l.takeWhile (· != d) = l ∧ l.dropWhile (· != d) = []
  | [], _ => ⟨rfl, rfl⟩
  | c :: l, h => by
    have h0 : c ≠ d := fun e => h 0 (by simp [e])
    have hc : (c != d) = true := by simpa using h0
    obtain ⟨h1, h2⟩ := splitd_none (l := l) (fun k hk => h (k + 1) (by simpa using hk))
    simp only [List.takeWhile_cons, List.dropWhile_cons, hc, if_true, h1, h2, and_self]
theorem splitd_some {d : UInt8} : ∀ {l : List UInt8} {o : Nat}, l[o]? = some d → (∀ k : Nat, k < o → l[k]? ≠ some d) → l.takeWhile (· != d) = l.take o ∧ l.dropWhile (· != d) = l.drop o
  | [], o, h, _ => by simp at h
  | c :: l, 0, h, _ => by
    simp at h
    subst h
    simp
  | c :: l, o + 1, h, hn => by
    have h0 : c ≠ d := fun e => hn 0 (by omega) (by simp [e])
    have hc : (c != d) = true := by simpa using h0
    obtain ⟨h1, h2⟩ := splitd_some (l := l) (o := o) (by simpa using h) (fun k hk hk2 => hn (k + 1) (by omega) (by simpa using hk2))
    simp only [List.takeWhile_cons, List.dropWhile_cons, hc, if_true, h1, h2, List.take_succ_cons, List.drop_succ_cons, and_self]

/-- which of the four were read -/
structure Sn where
  a : Bool
  b : Bool
  c : Bool
  d : Bool
def Sn.get (s : Sn) : Nat → Bool
  | 0 => s.a
  | 1 => s.b
  | 2 => s.c
  | _ => s.d
def Sn.put (s : Sn) : Nat → Sn
  | 0 => { s with a := true }
  | 1 => { s with b := true }
  | 2 => { s with c := true }
  | _ => { s with d := true }
def Am.put (x : Am) (v : Int) : Nat → Am
  | 0 => { x with c := v }
  | 1 => { x with r := v }
  | 2 => { x with d := v }
  | _ => { x with p := v }
abbrev snC (s : Sn) : List Value := [.bool s.a, .bool s.b, .bool s.c, .bool s.d]
theorem snC_get (x : Sn) {k : Nat} (hk : k < 4) : (snC x)[k]? = some (.bool (x.get k)) := by
  match k, hk with
  | 0, _ => rfl
  | 1, _ => rfl
  | 2, _ => rfl
  | 3, _ => rfl
  | n + 4, h => omega
theorem snC_set (x : Sn) {k : Nat} (hk : k < 4) : (snC x).set k (.bool true) = snC (x.put k) := by
  match k, hk with
  | 0, _ => rfl
  | 1, _ => rfl
  | 2, _ => rfl
  | 3, _ => rfl
  | n + 4, h => omega
theorem amC_set (x : Am) (v : Int) {k : Nat} (hk : k < 4) : (amC x).set k (.int .i64 v) = amC (x.put v k) := by
  match k, hk with
  | 0, _ => rfl
  | 1, _ => rfl
  | 2, _ => rfl
  | 3, _ => rfl
  | n + 4, h => omega
theorem partR_lt (l : List UInt8) : (partR l).1 < 4 := by unfold partR; repeat' split
                                                          all_goals simp

/-- a part's error, seen what was read before -/
def partE (l : List UInt8) (sn : Sn) : Int := if ((partR l).2.2 = 9 ∨ (partR l).2.2 = 0) ∧ sn.get (partR l).1 = true then 5 else (partR l).2.2
def wordL (l : List UInt8) : List UInt8 := l.takeWhile (· != 32)
def restL (l : List UInt8) : List UInt8 := l.dropWhile (· != 32)
def blanks (l : List UInt8) : List UInt8 := l.takeWhile (· == 32)
def parseF : Nat → List UInt8 → Nat → Am → Sn → Am × Int × Int
  | 0, _, _, _, _ => (.zero, 0, 0)
  | n + 1, r, at_, f, sn =>
    if partE (wordL r) sn ≠ 0 then (.zero, partE (wordL r) sn, at_)
    else if restL r = [] then (f.put (partR (wordL r)).2.1 (partR (wordL r)).1, 0, 0)
    else if (restL r).dropWhile (· == 32) = [] then (.zero, 5, at_ + (wordL r).length + (blanks (restL r)).length)
    else parseF n ((restL r).dropWhile (· == 32)) (at_ + (wordL r).length + (blanks (restL r)).length) (f.put (partR (wordL r)).2.1 (partR (wordL r)).1) (sn.put (partR (wordL r)).1)
def parseP (l : List UInt8) : Am × Int × Int :=
  if l = [110, 111, 110, 101] then (.zero, 0, 0) else if l = [] ∨ l.head? = some 32 then (.zero, 5, 0) else parseF (l.length + 1) l 0 .zero ⟨false, false, false, false⟩

theorem parse_err {n : Nat} {r : List UInt8} {a : Nat} {f : Am} {sn : Sn} (h : partE (wordL r) sn ≠ 0) : parseF (n + 1) r a f sn = (.zero, partE (wordL r) sn, (a : Int)) := by
  rw [parseF, if_pos h]
theorem parse_end {n : Nat} {r : List UInt8} {a : Nat} {f : Am} {sn : Sn} (h : partE (wordL r) sn = 0) (h2 : restL r = []) : parseF (n + 1) r a f sn = (f.put (partR (wordL r)).2.1 (partR (wordL r)).1, 0, 0) := by
  rw [parseF, if_neg (by rw [h]; simp), if_pos h2]
theorem parse_blank {n : Nat} {r : List UInt8} {a : Nat} {f : Am} {sn : Sn} (h : partE (wordL r) sn = 0) (h2 : restL r ≠ []) (h3 : (restL r).dropWhile (· == 32) = []) : parseF (n + 1) r a f sn = (.zero, 5, ((a + (wordL r).length + (blanks (restL r)).length : Nat) : Int)) := by
  rw [parseF, if_neg (by rw [h]; simp), if_neg h2, if_pos h3]
  simp
theorem parse_go {n : Nat} {r : List UInt8} {a : Nat} {f : Am} {sn : Sn} (h : partE (wordL r) sn = 0) (h2 : restL r ≠ []) (h3 : (restL r).dropWhile (· == 32) ≠ []) :
    parseF (n + 1) r a f sn = parseF n ((restL r).dropWhile (· == 32)) (a + (wordL r).length + (blanks (restL r)).length) (f.put (partR (wordL r)).2.1 (partR (wordL r)).1) (sn.put (partR (wordL r)).1) := by
  rw [parseF, if_neg (by rw [h]; simp), if_neg h2, if_neg h3]

theorem results_row2 {P : Program} {fn : Func} {p q : Tmp} {ty tz : TypeId} (h : fn.results = #[.cell p ty, .cell q tz]) (tmps : Array Value) (w : World) (g k : Nat) (t u : TypeId) (cs ds : Array Value) (fr fs : Nat × Nat) (d e : TypeDesc)
    (hp : tmps.getD p undef = .pointer (some ⟨g, 0, none⟩)) (hg : w.heap[g]? = some (.cells cs t fr)) (hq : tmps.getD q undef = .pointer (some ⟨k, 0, none⟩)) (hk : w.heap[k]? = some (.cells ds u fs))
    (hu : P.underlying ty = some d) (hd : (match d with | .struct _ | .array _ _ => true | _ => false) = true) (hi : (P.info? ty).map (·.size) = some cs.size)
    (hv : P.underlying tz = some e) (he : (match e with | .struct _ | .array _ _ => true | _ => false) = true) (hj : (P.info? tz).map (·.size) = some ds.size) :
    (results fn tmps).run P w = .ok (.tuple #[.agg cs, .agg ds]) w := by
  have hp' : tmps[p]?.getD undef = .pointer (some ⟨g, 0, none⟩) := by simpa using hp
  have hq' : tmps[q]?.getD undef = .pointer (some ⟨k, 0, none⟩) := by simpa using hq
  simp [results, h, hp', hq', asAddr, run_loadVar_row w g t ty cs fr d hg hu hd hi, run_loadVar_row w k u tz ds fs e hk hv he hj, Result.andThen]
theorem tw_drop (p : UInt8 → Bool) : ∀ l : List UInt8, l.dropWhile p = l.drop (l.takeWhile p).length
  | [] => rfl
  | c :: l => by
    have ih := tw_drop p l
    cases h : p c
    · simp [List.takeWhile_cons, List.dropWhile_cons, h]
    · simp [List.takeWhile_cons, List.dropWhile_cons, h, ih]
theorem tw_take (p : UInt8 → Bool) : ∀ l : List UInt8, l.takeWhile p = l.take (l.takeWhile p).length
  | [] => rfl
  | c :: l => by
    have ih := tw_take p l
    cases h : p c
    · simp [List.takeWhile_cons, h]
    · simp only [List.takeWhile_cons, h, if_true, List.length_cons, List.take_succ_cons, ← ih]
theorem tw_le (p : UInt8 → Bool) (l : List UInt8) : (l.takeWhile p).length ≤ l.length := (List.takeWhile_prefix p).length_le
theorem tw_get (p : UInt8 → Bool) : ∀ (l : List UInt8) (j : Nat) (h : j < l.length), j < (l.takeWhile p).length → p l[j] = true
  | [], j, h, _ => by simp at h
  | c :: l, j, h, hj => by
    cases hc : p c
    · simp [List.takeWhile_cons, hc] at hj
    · cases j with
      | zero => exact hc
      | succ j => exact tw_get p l j (by simpa using h) (by simpa [List.takeWhile_cons, hc] using hj)
theorem tw_stop (p : UInt8 → Bool) : ∀ (l : List UInt8) (h : (l.takeWhile p).length < l.length), p (l[(l.takeWhile p).length]) = false
  | [], h => by simp at h
  | c :: l, h => by
    cases hc : p c
    · simp only [List.takeWhile_cons, hc]; exact hc
    · have h2 : (l.takeWhile p).length < l.length := by simpa [List.takeWhile_cons, hc] using h
      have := tw_stop p l h2
      simp only [List.takeWhile_cons, hc, if_true, List.length_cons, List.getElem_cons_succ]
      exact this
theorem word_index {r : List UInt8} (h : Lib.indexByte r 32 = -1) : (wordL r).length = r.length := by
  unfold wordL; rw [(splitd_none (Lib.indexByte_none h)).1]
theorem word_index' {r : List UInt8} {o : Nat} (h : Lib.indexByte r 32 = (o : Int)) : (wordL r).length = o ∧ o < r.length := by
  obtain ⟨h1, h2⟩ := Lib.indexByte_some h
  have hl := (List.getElem?_eq_some_iff.1 h1).1
  unfold wordL
  rw [(splitd_some h1 h2).1, List.length_take]
  omega
set_option maxRecDepth 100000 in
theorem part_val (s : ByteArray) (w : World) (hs : s.size ≤ maxLen) (l : List UInt8) (hl : s.data.toList = l) (i : Nat) (x e : Int) (h : partR l = (i, x, e)) :
    Calls Tryd.prog 42 #[.string s] w fun e' w' => e' = .returned (.tuple #[.int .i64 (i : Int), .int .i64 x, .int .i64 e]) ∧ Below w.heap.size w w' :=
  (part_any s w hs).mono fun e' w' ⟨h1, h2⟩ => ⟨by rw [h1, hl, h], h2⟩
theorem index_val (s : ByteArray) (w : World) (l : List UInt8) (hl : s.data.toList = l) (v : Int) (h : Lib.indexByte l 32 = v) :
    Calls Tryd.prog 41 #[.string s, .int .u8 32] w fun e' w' => e' = .returned (.int .i64 v) ∧ w' = w :=
  (Tryd.strings_IndexByte s 32 w).mono fun e' w' ⟨h1, h2⟩ => ⟨by rw [h1, hl, ← h]; rfl, h2⟩
theorem blanks_pos : ∀ r : List UInt8, restL r ≠ [] → 0 < (blanks (restL r)).length
  | [], h => absurd rfl h
  | c :: r, h => by
    have ih := blanks_pos r
    unfold restL at *
    cases hc : (c != 32)
    · have e : c = 32 := by simpa using hc
      subst e
      simp [List.dropWhile_cons, blanks, List.takeWhile_cons]
    · have e : (c :: r).dropWhile (· != 32) = r.dropWhile (· != 32) := by simp [List.dropWhile_cons, hc]
      rw [e] at h ⊢
      exact ih h
theorem ba_len (b : ByteArray) : b.data.toList.length = b.size := by simp
theorem ex_word {s : ByteArray} {q o : Nat} {r : List UInt8} (hr : r = s.data.toList.drop q) (ho : o = (wordL r).length) : (s.extract q (q + o)).data.toList = wordL r := by
  rw [← Lib.toList_data, Lib.extract_toList, ← hr, Nat.add_sub_cancel_left, ho]
  exact (tw_take _ _).symm
example : parseP [114, 97, 109, 61, 49, 32, 32, 99, 112, 117, 61, 50] = (⟨2, 1, 0, 0⟩, 0, 0) := by decide
end Go.Proofs.YtmgecehdicpjnaaDoor
