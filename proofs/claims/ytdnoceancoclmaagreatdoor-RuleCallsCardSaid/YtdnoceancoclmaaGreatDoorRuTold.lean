/- RuTold. -/
import Derived.Test.YtdnoceancoclmaaGreatDoorM00
namespace Go.Proofs.YtdnoceancoclmaaGreatDoor.Ru

def Tr.root (b : Nat) : Tr → Nd
  | .lf k nm vl x => ⟨k, nm, vl, x, -1, -1⟩
  | .no t => ⟨7, [], [], 0, (b : Int) + t.size - 1, -1⟩
  | .an l r => ⟨8, [], [], 0, (b : Int) + l.size - 1, (b : Int) + l.size + r.size - 1⟩
  | .o l r => ⟨9, [], [], 0, (b : Int) + l.size - 1, (b : Int) + l.size + r.size - 1⟩
def Tr.init (b : Nat) : Tr → List Nd
  | .lf _ _ _ _ => []
  | .no t => t.flat b
  | .an l r => l.flat b ++ r.flat (b + l.size)
  | .o l r => l.flat b ++ r.flat (b + l.size)
theorem Tr.flat_eq (t : Tr) (b : Nat) : t.flat b = t.init b ++ [t.root b] := by cases t <;> rfl
theorem Tr.init_len (t : Tr) (b : Nat) : (t.init b).length + 1 = t.size := by
  have := t.flat_len b
  rw [t.flat_eq, List.length_append] at this
  simpa using this
theorem at_root (t : Tr) (X Y : List Nd) : (X ++ t.flat X.length ++ Y)[X.length + t.size - 1]? = some (t.root X.length) := by
  have h := t.init_len X.length
  rw [t.flat_eq, List.append_assoc, List.append_assoc, List.getElem?_append_right (by omega), List.getElem?_append_right (by omega)]
  have : X.length + t.size - 1 - X.length - (t.init X.length).length = 0 := by omega
  rw [this]; rfl
theorem leaf_kind {k x : Int} {nm vl : List UInt8} (h : leafOk k nm vl x) : 1 ≤ k ∧ k ≤ 6 := by
  rcases h with ⟨rfl, _⟩ | ⟨rfl | rfl, _⟩ | ⟨rfl | rfl, _⟩ | ⟨rfl, _⟩ <;> omega
theorem kind_root (t : Tr) (ho : t.ok) (b : Nat) : tightK (t.root b).k = t.tight := by
  cases t with
  | lf k nm vl x =>
    have := leaf_kind ho
    show tightK k = 4
    unfold tightK
    rw [if_neg (by omega), if_neg (by omega), if_neg (by omega)]
  | no t => rfl
  | an l r => rfl
  | o l r => rfl
theorem kindAt_root (t : Tr) (ho : t.ok) (X Y : List Nd) : tightK (kindAt (X ++ t.flat X.length ++ Y) (X.length + t.size - 1)) = t.tight := by
  unfold kindAt
  rw [at_root]
  exact kind_root t ho _
theorem told_flat : ∀ (t : Tr) (X Y : List Nd) (F : Nat), t.ok → t.size ≤ F → toldP (X ++ t.flat X.length ++ Y) F (X.length + t.size - 1) = t.tx [32] := by
  intro t
  induction t with
  | lf k nm vl x =>
    intro X Y F ho hF
    obtain ⟨G, rfl⟩ : ∃ G, F = G + 1 := ⟨F - 1, by have : (Tr.lf k nm vl x).size = 1 := rfl; omega⟩
    have := leaf_kind ho
    unfold toldP
    rw [at_root]
    show (if k = 7 then _ else if k = 8 then _ else if k = 9 then _ else ltx k nm vl x) = _
    rw [if_neg (by omega), if_neg (by omega), if_neg (by omega)]
    rfl
  | no t ih =>
    intro X Y F ho hF
    have hsz : (Tr.no t).size = t.size + 1 := rfl
    have hp := t.size_pos
    obtain ⟨G, rfl⟩ : ∃ G, F = G + 1 := ⟨F - 1, by omega⟩
    unfold toldP
    rw [at_root]
    have hL : X ++ (Tr.no t).flat X.length ++ Y = X ++ t.flat X.length ++ ((Tr.no t).root X.length :: Y) := by
      show X ++ (t.flat X.length ++ [_]) ++ Y = _
      simp only [List.append_assoc, List.singleton_append]
      rfl
    have hi : ((Tr.no t).root X.length).a.toNat = X.length + t.size - 1 := by
      show ((X.length : Int) + t.size - 1).toNat = _
      omega
    show (if ((Tr.no t).root X.length).k = 7 then 33 :: par (decide (tightK (kindAt (X ++ (Tr.no t).flat X.length ++ Y) ((Tr.no t).root X.length).a.toNat) < 3)) (toldP (X ++ (Tr.no t).flat X.length ++ Y) G ((Tr.no t).root X.length).a.toNat) else _) = _
    rw [if_pos (by rfl), hi, hL, kindAt_root t ho, ih X _ G ho (by omega)]
    rfl
  | an l r ihl ihr =>
    intro X Y F ho hF
    have hsz : (Tr.an l r).size = l.size + r.size + 1 := rfl
    have hp1 := l.size_pos
    have hp2 := r.size_pos
    obtain ⟨G, rfl⟩ : ∃ G, F = G + 1 := ⟨F - 1, by omega⟩
    unfold toldP
    rw [at_root]
    have hL1 : X ++ (Tr.an l r).flat X.length ++ Y = X ++ l.flat X.length ++ (r.flat (X.length + l.size) ++ (Tr.an l r).root X.length :: Y) := by
      show X ++ (l.flat X.length ++ r.flat (X.length + l.size) ++ [_]) ++ Y = _
      simp only [List.append_assoc, List.singleton_append]
      rfl
    have hXl : (X ++ l.flat X.length).length = X.length + l.size := by rw [List.length_append, l.flat_len]
    have hL2 : X ++ (Tr.an l r).flat X.length ++ Y = (X ++ l.flat X.length) ++ r.flat (X ++ l.flat X.length).length ++ ((Tr.an l r).root X.length :: Y) := by
      rw [hL1, hXl]
      simp only [List.append_assoc]
    have h1 : ((Tr.an l r).root X.length).a.toNat = X.length + l.size - 1 := by
      show ((X.length : Int) + l.size - 1).toNat = _
      omega
    have h2 : ((Tr.an l r).root X.length).b.toNat = (X ++ l.flat X.length).length + r.size - 1 := by
      show ((X.length : Int) + l.size + r.size - 1).toNat = _
      omega
    have a1 : toldP (X ++ (Tr.an l r).flat X.length ++ Y) G ((Tr.an l r).root X.length).a.toNat = l.tx [32] := by rw [h1, hL1]; exact ihl X _ G ho.1 (by omega)
    have a2 : toldP (X ++ (Tr.an l r).flat X.length ++ Y) G ((Tr.an l r).root X.length).b.toNat = r.tx [32] := by rw [h2, hL2]; exact ihr _ _ G ho.2 (by omega)
    have k1 : tightK (kindAt (X ++ (Tr.an l r).flat X.length ++ Y) ((Tr.an l r).root X.length).a.toNat) = l.tight := by rw [h1, hL1]; exact kindAt_root l ho.1 _ _
    have k2 : tightK (kindAt (X ++ (Tr.an l r).flat X.length ++ Y) ((Tr.an l r).root X.length).b.toNat) = r.tight := by rw [h2, hL2]; exact kindAt_root r ho.2 _ _
    have e7 : ¬ ((Tr.an l r).root X.length).k = 7 := by show ¬ (8 : Int) = 7; omega
    have e8 : ((Tr.an l r).root X.length).k = 8 := rfl
    simp only [a1, a2, k1, k2]
    rw [if_neg e7, if_pos e8]
    rfl
  | o l r ihl ihr =>
    intro X Y F ho hF
    have hsz : (Tr.o l r).size = l.size + r.size + 1 := rfl
    have hp1 := l.size_pos
    have hp2 := r.size_pos
    obtain ⟨G, rfl⟩ : ∃ G, F = G + 1 := ⟨F - 1, by omega⟩
    unfold toldP
    rw [at_root]
    have hL1 : X ++ (Tr.o l r).flat X.length ++ Y = X ++ l.flat X.length ++ (r.flat (X.length + l.size) ++ (Tr.o l r).root X.length :: Y) := by
      show X ++ (l.flat X.length ++ r.flat (X.length + l.size) ++ [_]) ++ Y = _
      simp only [List.append_assoc, List.singleton_append]
      rfl
    have hXl : (X ++ l.flat X.length).length = X.length + l.size := by rw [List.length_append, l.flat_len]
    have hL2 : X ++ (Tr.o l r).flat X.length ++ Y = (X ++ l.flat X.length) ++ r.flat (X ++ l.flat X.length).length ++ ((Tr.o l r).root X.length :: Y) := by
      rw [hL1, hXl]
      simp only [List.append_assoc]
    have h1 : ((Tr.o l r).root X.length).a.toNat = X.length + l.size - 1 := by
      show ((X.length : Int) + l.size - 1).toNat = _
      omega
    have h2 : ((Tr.o l r).root X.length).b.toNat = (X ++ l.flat X.length).length + r.size - 1 := by
      show ((X.length : Int) + l.size + r.size - 1).toNat = _
      omega
    have a1 : toldP (X ++ (Tr.o l r).flat X.length ++ Y) G ((Tr.o l r).root X.length).a.toNat = l.tx [32] := by rw [h1, hL1]; exact ihl X _ G ho.1 (by omega)
    have a2 : toldP (X ++ (Tr.o l r).flat X.length ++ Y) G ((Tr.o l r).root X.length).b.toNat = r.tx [32] := by rw [h2, hL2]; exact ihr _ _ G ho.2 (by omega)
    have k1 : tightK (kindAt (X ++ (Tr.o l r).flat X.length ++ Y) ((Tr.o l r).root X.length).a.toNat) = l.tight := by rw [h1, hL1]; exact kindAt_root l ho.1 _ _
    have k2 : tightK (kindAt (X ++ (Tr.o l r).flat X.length ++ Y) ((Tr.o l r).root X.length).b.toNat) = r.tight := by rw [h2, hL2]; exact kindAt_root r ho.2 _ _
    have e7 : ¬ ((Tr.o l r).root X.length).k = 7 := by show ¬ (9 : Int) = 7; omega
    have e8 : ¬ ((Tr.o l r).root X.length).k = 8 := by show ¬ (9 : Int) = 8; omega
    have e9 : ((Tr.o l r).root X.length).k = 9 := rfl
    have hl := l.tight_pos
    simp only [a1, a2, k1, k2]
    rw [if_neg e7, if_neg e8, if_pos e9, decide_eq_false (by omega), par_false]
    rfl
theorem toldA_flat (t : Tr) (ho : t.ok) : toldA (t.flat 0) = t.tx [32] := by
  unfold toldA
  have := told_flat t [] [] (t.flat 0).length ho (by rw [t.flat_len]; exact Nat.le_refl _)
  simp only [List.nil_append, List.append_nil, List.length_nil] at this
  rw [t.flat_len] at this ⊢
  rw [Nat.zero_add] at this
  exact this
theorem parse_tx {t : Tr} {B le tr : List UInt8} (ho : t.ok) (hd : t.dep ≤ 32) (hs : t.size ≤ 64) (hB : Bl B) (hle : Bl le) (htr : Bl tr) (hlen : (le ++ (t.tx B ++ tr)).length ≤ 1024) (ht : (t.tx [32]).length ≤ 1024) :
    parseP (le ++ (t.tx B ++ tr)) = .ok (t.flat 0) := by
  have hbt : blk tr = [] := by
    have := blk_skip (r := []) htr
    rw [List.append_nil] at this
    rw [this]; rfl
  have hw1 : Go.Proofs.YtdnoceancoclmaaGreatDoor.Ru.hd wdc tr = false := by
    cases tr with
    | nil => rfl
    | cons c r =>
      show wdc c = false
      have := htr c (by simp)
      cases hw : wdc c with
      | false => rfl
      | true => rw [wdc_sp hw] at this; cases this
  have hfol : Fol tr := ⟨hw1, .inl hbt⟩
  obtain ⟨r', h1, h2, h3⟩ := or_ok (N := (le ++ (t.tx B ++ tr)).length) hB (not_ok hB ((le ++ (t.tx B ++ tr)).length + 1) 0) t 0 [] le tr ho hle (by omega) (by omega) (by omega) hfol (by rw [hbt]; rfl) (by rw [hbt]; rfl)
  rw [hbt] at h2
  unfold parseP
  rw [if_neg (by omega), h1]
  simp only [List.nil_append, List.length_nil, h2, ne_eq, not_true_eq_false, if_false]
  rw [toldA_flat t ho, if_neg (by omega)]

/-! is it a tree? -/
def parts (n : Nd) : List Int := if n.k = 7 then [n.a] else if n.k = 8 ∨ n.k = 9 then [n.a, n.b] else []
def fineB (i : Nat) (n : Nd) : Bool :=
  (if n.k = 7 then decide (n.b = -1) else if n.k = 8 ∨ n.k = 9 then true else decide (n.a = -1 ∧ n.b = -1)) && (parts n).all (fun k => decide (0 ≤ k ∧ k < i))
def refs (L : List Nd) (j : Nat) : Nat := (L.flatMap parts).count (j : Int)
def shapedB (L : List Nd) : Bool :=
  decide (1 ≤ L.length ∧ L.length ≤ 64) && (List.range L.length).all (fun i => fineB i ((L[i]?).getD ⟨0, [], [], 0, 0, 0⟩)) &&
    (List.range (L.length - 1)).all (fun j => decide (refs L j = 1)) && decide (refs L (L.length - 1) = 0)
theorem refs_app (A C : List Nd) (j : Nat) : refs (A ++ C) j = refs A j + refs C j := by
  unfold refs
  rw [List.flatMap_append, List.count_append]
theorem refs_one (n : Nd) (j : Nat) : refs [n] j = (parts n).count (j : Int) := by unfold refs; simp
theorem refs_flat : ∀ (t : Tr) (b j : Nat), t.ok → refs (t.flat b) j = if b ≤ j ∧ j + 1 < b + t.size then 1 else 0 := by
  intro t
  induction t with
  | lf k nm vl x =>
    intro b j ho
    have := leaf_kind ho
    show refs [_] j = _
    rw [refs_one]
    unfold parts
    rw [if_neg (by simp only; omega), if_neg (by simp only; omega), if_neg (by have : (Tr.lf k nm vl x).size = 1 := rfl; omega)]
    rfl
  | no t ih =>
    intro b j ho
    have hp := t.size_pos
    have hsz : (Tr.no t).size = t.size + 1 := rfl
    show refs (t.flat b ++ [_]) j = _
    rw [refs_app, ih b j ho, refs_one]
    have : parts ⟨7, [], [], 0, (b : Int) + t.size - 1, -1⟩ = [(b : Int) + t.size - 1] := rfl
    rw [this, List.count_cons, List.count_nil, hsz]
    by_cases h : (b : Int) + t.size - 1 = j
    · rw [if_neg (by omega), if_pos (by simpa using h), if_pos (by omega)]
    · rw [if_neg (c := ((b : Int) + t.size - 1 == j) = true) (by simpa using h)]
      split <;> split <;> omega
  | an l r ihl ihr =>
    intro b j ho
    have hp1 := l.size_pos
    have hp2 := r.size_pos
    have hsz : (Tr.an l r).size = l.size + r.size + 1 := rfl
    show refs (l.flat b ++ r.flat (b + l.size) ++ [_]) j = _
    rw [refs_app, refs_app, ihl b j ho.1, ihr _ j ho.2, refs_one]
    have : parts ⟨8, [], [], 0, (b : Int) + l.size - 1, (b : Int) + l.size + r.size - 1⟩ = [(b : Int) + l.size - 1, (b : Int) + l.size + r.size - 1] := rfl
    rw [this, List.count_cons, List.count_cons, List.count_nil, hsz]
    simp only [beq_iff_eq]
    repeat' split
    all_goals omega
  | o l r ihl ihr =>
    intro b j ho
    have hp1 := l.size_pos
    have hp2 := r.size_pos
    have hsz : (Tr.o l r).size = l.size + r.size + 1 := rfl
    show refs (l.flat b ++ r.flat (b + l.size) ++ [_]) j = _
    rw [refs_app, refs_app, ihl b j ho.1, ihr _ j ho.2, refs_one]
    have : parts ⟨9, [], [], 0, (b : Int) + l.size - 1, (b : Int) + l.size + r.size - 1⟩ = [(b : Int) + l.size - 1, (b : Int) + l.size + r.size - 1] := rfl
    rw [this, List.count_cons, List.count_cons, List.count_nil, hsz]
    simp only [beq_iff_eq]
    repeat' split
    all_goals omega
theorem fine_flat : ∀ (t : Tr) (b i : Nat) (n : Nd), t.ok → (t.flat b)[i]? = some n → fineB (b + i) n = true := by
  intro t
  induction t with
  | lf k nm vl x =>
    intro b i n ho h
    have := leaf_kind ho
    have hn : n = ⟨k, nm, vl, x, -1, -1⟩ := by
      cases i with
      | zero => exact (Option.some.inj h).symm
      | succ i => simp [Tr.flat] at h
    subst hn
    unfold fineB parts
    rw [if_neg (by simp only; omega), if_neg (by simp only; omega), if_neg (by simp only; omega), if_neg (by simp only; omega)]
    rfl
  | no t ih =>
    intro b i n ho h
    have hp := t.size_pos
    have h' : (t.flat b ++ [(⟨7, [], [], 0, (b : Int) + t.size - 1, -1⟩ : Nd)])[i]? = some n := h
    by_cases hi : i < t.size
    · rw [List.getElem?_append_left (by rw [t.flat_len]; exact hi)] at h'
      exact ih b i n ho h'
    · rw [List.getElem?_append_right (by rw [t.flat_len]; omega), t.flat_len] at h'
      have e : i - t.size = 0 := by
        rcases Nat.eq_zero_or_pos (i - t.size) with e | e
        · exact e
        · rw [List.getElem?_eq_none (by simp only [List.length_cons, List.length_nil]; omega)] at h'; cases h'
      rw [e] at h'
      simp only [List.getElem?_cons_zero, Option.some.injEq] at h'
      subst h'
      unfold fineB parts
      simp
      omega
  | an l r ihl ihr =>
    intro b i n ho h
    have hp1 := l.size_pos
    have hp2 := r.size_pos
    have h' : (l.flat b ++ (r.flat (b + l.size) ++ [(⟨8, [], [], 0, (b : Int) + l.size - 1, (b : Int) + l.size + r.size - 1⟩ : Nd)]))[i]? = some n := by rw [← List.append_assoc]; exact h
    by_cases hi : i < l.size
    · rw [List.getElem?_append_left (by rw [l.flat_len]; exact hi)] at h'
      exact ihl b i n ho.1 h'
    rw [List.getElem?_append_right (by rw [l.flat_len]; omega), l.flat_len] at h'
    by_cases hi2 : i - l.size < r.size
    · rw [List.getElem?_append_left (by rw [r.flat_len]; exact hi2)] at h'
      have := ihr (b + l.size) (i - l.size) n ho.2 h'
      have e : b + l.size + (i - l.size) = b + i := by omega
      rw [e] at this
      exact this
    · rw [List.getElem?_append_right (by rw [r.flat_len]; omega), r.flat_len] at h'
      have e : i - l.size - r.size = 0 := by
        rcases Nat.eq_zero_or_pos (i - l.size - r.size) with e | e
        · exact e
        · rw [List.getElem?_eq_none (by simp only [List.length_cons, List.length_nil]; omega)] at h'; cases h'
      rw [e] at h'
      simp only [List.getElem?_cons_zero, Option.some.injEq] at h'
      subst h'
      unfold fineB parts
      simp
      omega
  | o l r ihl ihr =>
    intro b i n ho h
    have hp1 := l.size_pos
    have hp2 := r.size_pos
    have h' : (l.flat b ++ (r.flat (b + l.size) ++ [(⟨9, [], [], 0, (b : Int) + l.size - 1, (b : Int) + l.size + r.size - 1⟩ : Nd)]))[i]? = some n := by rw [← List.append_assoc]; exact h
    by_cases hi : i < l.size
    · rw [List.getElem?_append_left (by rw [l.flat_len]; exact hi)] at h'
      exact ihl b i n ho.1 h'
    rw [List.getElem?_append_right (by rw [l.flat_len]; omega), l.flat_len] at h'
    by_cases hi2 : i - l.size < r.size
    · rw [List.getElem?_append_left (by rw [r.flat_len]; exact hi2)] at h'
      have := ihr (b + l.size) (i - l.size) n ho.2 h'
      have e : b + l.size + (i - l.size) = b + i := by omega
      rw [e] at this
      exact this
    · rw [List.getElem?_append_right (by rw [r.flat_len]; omega), r.flat_len] at h'
      have e : i - l.size - r.size = 0 := by
        rcases Nat.eq_zero_or_pos (i - l.size - r.size) with e | e
        · exact e
        · rw [List.getElem?_eq_none (by simp only [List.length_cons, List.length_nil]; omega)] at h'; cases h'
      rw [e] at h'
      simp only [List.getElem?_cons_zero, Option.some.injEq] at h'
      subst h'
      unfold fineB parts
      simp
      omega
theorem shaped_flat (t : Tr) (ho : t.ok) (hs : t.size ≤ 64) : shapedB (t.flat 0) = true := by
  have hp := t.size_pos
  unfold shapedB
  rw [t.flat_len]
  simp only [Bool.and_eq_true, decide_eq_true_eq, List.all_eq_true, List.mem_range]
  refine ⟨⟨⟨⟨hp, hs⟩, fun i hi => ?_⟩, fun j hj => ?_⟩, ?_⟩
  · have hlt : i < (t.flat 0).length := by rw [t.flat_len]; exact hi
    rw [List.getElem?_eq_getElem hlt]
    have := fine_flat t 0 i _ ho (List.getElem?_eq_getElem hlt)
    rw [Nat.zero_add] at this
    exact this
  · rw [refs_flat t 0 j ho, if_pos (by omega)]
  · rw [refs_flat t 0 _ ho, if_neg (by omega)]

/-- what Check answers -/
def checkP (L : List Nd) : Int := if shapedB L = true then (match parseP (toldA L) with | .ok M => if M = L then 0 else 2 | .error _ => 2) else 2
theorem check_parse {s : List UInt8} {L : List Nd} (h : parseP s = .ok L) : parseP (toldA L) = .ok L ∧ checkP L = 0 ∧ 1 ≤ L.length ∧ L.length ≤ 64 := by
  obtain ⟨t, h1, h2, h3, rfl, h5⟩ := parseP_tree h
  rw [toldA_flat t h1] at h5
  have hb : parseP (toldA (t.flat 0)) = .ok (t.flat 0) := by
    rw [toldA_flat t h1]
    have := parse_tx (B := [32]) (le := []) (tr := []) h1 h2 h3 (by intro c hc; simp at hc; subst hc; rfl) (by intro c hc; cases hc) (by intro c hc; cases hc) (by simpa using h5) h5
    simpa using this
  refine ⟨hb, ?_, by rw [t.flat_len]; exact t.size_pos, by rw [t.flat_len]; exact h3⟩
  unfold checkP
  rw [if_pos (shaped_flat t h1 h3), hb]
  simp

/-! blanks left out, or more of them -/
section
variable {g : UInt8 → List UInt8} (hg : ∀ c, c ≠ 32 → g c = [c])
include hg
end
theorem parse_long {s : List UInt8} (h : 1024 < s.length) : parseP s = .error (3, -1) := by unfold parseP; rw [if_pos h]
end Go.Proofs.YtdnoceancoclmaaGreatDoor.Ru
