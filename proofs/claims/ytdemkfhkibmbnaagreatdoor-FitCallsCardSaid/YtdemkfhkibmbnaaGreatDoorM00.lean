/- RuPlain, RuBack, RuRead, RuTold. -/
import Derived.Lib.ItoaMem
import Derived.Lib.ItoaNum
namespace Go.Proofs.YtdemkfhkibmbnaaGreatDoor.Ru
structure Nd where
 k : Int
 nm : List UInt8
 vl : List UInt8
 x : Int
 a : Int
 b : Int
 deriving DecidableEq
def lo (c : UInt8) : Bool := 97 ≤ c.toNat && c.toNat ≤ 122
def up (c : UInt8) : Bool := 65 ≤ c.toNat && c.toNat ≤ 90
def dgt (c : UInt8) : Bool := 48 ≤ c.toNat && c.toNat ≤ 57
def nmc (c : UInt8) : Bool := lo c || dgt c || c.toNat == 45
def wdc (c : UInt8) : Bool := lo c || up c || dgt c || c.toNat == 45 || c.toNat == 95 || c.toNat == 46
def sp (c : UInt8) : Bool := c.toNat == 32
def blk (r : List UInt8) : List UInt8 := r.dropWhile sp
def hd (p : UInt8 → Bool) : List UInt8 → Bool
 | [] => false
 | c :: _ => p c
def strip (p r : List UInt8) : Option (List UInt8) := if p.isPrefixOf r then some (r.drop p.length) else none
def run (m : Nat) (p : UInt8 → Bool) (r : List UInt8) : List UInt8 := (r.take m).takeWhile p
structure Ps where
 n : Nat
 L : List Nd
 r : List UInt8
abbrev PR := Except (Int × Int) (Int × Ps)
def pos (N : Nat) (r : List UInt8) : Int := (N : Int) - (r.length : Int)
def put (n : Nat) (L : List Nd) (r : List UInt8) (x : Nd) : Int × Ps := ((L.length : Int), ⟨n, L ++ [x], r⟩)
def digV (s : List UInt8) : Int := s.foldl (fun v c => 10 * v + ((c.toNat : Int) - 48)) 0
def wdE (N n : Nat) (L : List Nd) (nm : List UInt8) (k : Int) (r : List UInt8) : PR :=
 if run 32 wdc (blk r) = [] then .error (5, pos N (blk r)) else .ok (put n L ((blk r).drop (run 32 wdc (blk r)).length) ⟨k, nm, run 32 wdc (blk r), 0, -1, -1⟩)
def dgE (N n : Nat) (L : List Nd) (nm : List UInt8) (k : Int) (r : List UInt8) : PR :=
 if run 12 dgt (blk r) = [] then .error (5, pos N (blk r)) else .ok (put n L ((blk r).drop (run 12 dgt (blk r)).length) ⟨k, nm, [], digV (run 12 dgt (blk r)), -1, -1⟩)
def opP (N n : Nat) (L : List Nd) (nm r : List UInt8) : PR :=
 match strip [33, 61] r with
 | some r => wdE N n L nm 3 r
 | none => match strip [62, 61] r with
  | some r => dgE N n L nm 4 r
  | none => match strip [60, 61] r with
   | some r => dgE N n L nm 5 r
   | none => match strip [61] r with
    | some r => wdE N n L nm 2 r
    | none => match strip [33] r with
     | some r => .error (5, pos N r)
     | none => match strip [62] r with
      | some r => .error (5, pos N r)
      | none => match strip [60] r with
       | some r => .error (5, pos N r)
       | none => .ok (put n L r ⟨6, nm, [], 0, -1, -1⟩)
def anyT : List UInt8 := [97, 110, 121]
def leafP (N : Nat) (st : Ps) : PR :=
 if hd lo st.r = false then .error (5, pos N st.r)
 else if run 24 nmc st.r = anyT ∧ hd wdc (st.r.drop (run 24 nmc st.r).length) = false then
  (if 64 < st.n + 1 then .error (3, pos N st.r) else .ok (put (st.n + 1) st.L (st.r.drop (run 24 nmc st.r).length) ⟨1, [], [], 0, -1, -1⟩))
 else if hd wdc (st.r.drop (run 24 nmc st.r).length) = true then .error (5, pos N (st.r.drop (run 24 nmc st.r).length))
 else if 64 < st.n + 1 then .error (3, pos N st.r)
 else opP N (st.n + 1) st.L (run 24 nmc st.r) (blk (st.r.drop (run 24 nmc st.r).length))
def loopP (N : Nat) (sg : UInt8) (kd : Int) (nx : Ps → PR) : Nat → Int → Ps → PR
 | 0, _, _ => .error (0, 0)
 | K + 1, left, st =>
  match strip [sg] (blk st.r) with
  | none => .ok (left, ⟨st.n, st.L, blk st.r⟩)
  | some r => if 64 < st.n + 1 then .error (3, pos N (blk st.r)) else
   match nx ⟨st.n + 1, st.L, r⟩ with
   | .error e => .error e
   | .ok q => loopP N sg kd nx K q.2.L.length ⟨q.2.n, q.2.L ++ [⟨kd, [], [], 0, left, q.1⟩], q.2.r⟩
def pairsP (N : Nat) (sg : UInt8) (kd : Int) (nx : Ps → PR) (st : Ps) : PR :=
 match nx st with
 | .error e => .error e
 | .ok q => loopP N sg kd nx (q.2.r.length + 1) q.1 q.2
def notP (N : Nat) : Nat → Nat → Ps → PR
 | 0, _, _ => .error (0, 0)
 | F + 1, d, st =>
  match strip [33] (blk st.r) with
  | some r =>
   if 32 < d + 1 then .error (3, pos N (blk st.r)) else if 64 < st.n + 1 then .error (3, pos N (blk st.r)) else
   match notP N F (d + 1) ⟨st.n + 1, st.L, r⟩ with
   | .error e => .error e
   | .ok q => .ok (put q.2.n q.2.L q.2.r ⟨7, [], [], 0, q.1, -1⟩)
  | none => match strip [40] (blk st.r) with
   | some r =>
    if 32 < d + 1 then .error (3, pos N (blk st.r)) else
    match pairsP N 124 9 (pairsP N 38 8 (notP N F (d + 1))) ⟨st.n, st.L, r⟩ with
    | .error e => .error e
    | .ok q => match strip [41] (blk q.2.r) with
     | some r3 => .ok (q.1, ⟨q.2.n, q.2.L, r3⟩)
     | none => .error (5, pos N (blk q.2.r))
   | none => leafP N ⟨st.n, st.L, blk st.r⟩
def andP (N F d : Nat) : Ps → PR := pairsP N 38 8 (notP N F d)
def orP (N F d : Nat) : Ps → PR := pairsP N 124 9 (andP N F d)
def par (b : Bool) (s : List UInt8) : List UInt8 := if b then 40 :: (s ++ [41]) else s
def ltx (k : Int) (nm vl : List UInt8) (x : Int) : List UInt8 :=
 if k = 1 then anyT else if k = 2 then nm ++ 61 :: vl else if k = 3 then nm ++ 33 :: 61 :: vl
 else if k = 4 then nm ++ 62 :: 61 :: Lib.itoa x else if k = 5 then nm ++ 60 :: 61 :: Lib.itoa x else nm
def tightK (k : Int) : Nat := if k = 9 then 1 else if k = 8 then 2 else if k = 7 then 3 else 4
def kindAt (L : List Nd) (i : Nat) : Int := (L[i]?.map Nd.k).getD 0
def toldP (L : List Nd) : Nat → Nat → List UInt8
 | 0, _ => []
 | F + 1, i => match L[i]? with
  | none => []
  | some n =>
   if n.k = 7 then 33 :: par (decide (tightK (kindAt L n.a.toNat) < 3)) (toldP L F n.a.toNat)
   else if n.k = 8 then par (decide (tightK (kindAt L n.a.toNat) < 2)) (toldP L F n.a.toNat) ++ 32 :: 38 :: 32 :: par (decide (tightK (kindAt L n.b.toNat) < 3)) (toldP L F n.b.toNat)
   else if n.k = 9 then par (decide (tightK (kindAt L n.a.toNat) < 1)) (toldP L F n.a.toNat) ++ 32 :: 124 :: 32 :: par (decide (tightK (kindAt L n.b.toNat) < 2)) (toldP L F n.b.toNat)
   else ltx n.k n.nm n.vl n.x
def toldA (L : List Nd) : List UInt8 := toldP L L.length (L.length - 1)
def parseP (s : List UInt8) : Except (Int × Int) (List Nd) :=
 if 1024 < s.length then .error (3, -1) else
 match orP s.length (s.length + 1) 0 ⟨0, [], s⟩ with
 | .error e => .error e
 | .ok q => if blk q.2.r ≠ [] then .error (5, pos s.length (blk q.2.r)) else if 1024 < (toldA q.2.L).length then .error (3, -1) else .ok q.2.L
inductive Tr where
 | lf (k : Int) (nm vl : List UInt8) (x : Int)
 | no (t : Tr)
 | an (l r : Tr)
 | o (l r : Tr)
namespace Tr
def size : Tr → Nat
 | lf _ _ _ _ => 1
 | no t => t.size + 1
 | an l r => l.size + r.size + 1
 | o l r => l.size + r.size + 1
def tight : Tr → Nat
 | lf _ _ _ _ => 4
 | no _ => 3
 | an _ _ => 2
 | o _ _ => 1
def dep : Tr → Nat
 | lf _ _ _ _ => 0
 | no t => t.dep + (if t.tight < 3 then 1 else 0) + 1
 | an l r => max (l.dep + (if l.tight < 2 then 1 else 0)) (r.dep + (if r.tight < 3 then 1 else 0))
 | o l r => max l.dep (r.dep + (if r.tight < 2 then 1 else 0))
def depA (k : Nat) (t : Tr) : Nat := t.dep + (if t.tight < k then 1 else 0)
def flat (b : Nat) : Tr → List Nd
 | lf k nm vl x => [⟨k, nm, vl, x, -1, -1⟩]
 | no t => t.flat b ++ [⟨7, [], [], 0, (b : Int) + t.size - 1, -1⟩]
 | an l r => l.flat b ++ r.flat (b + l.size) ++ [⟨8, [], [], 0, (b : Int) + l.size - 1, (b : Int) + l.size + r.size - 1⟩]
 | o l r => l.flat b ++ r.flat (b + l.size) ++ [⟨9, [], [], 0, (b : Int) + l.size - 1, (b : Int) + l.size + r.size - 1⟩]
def tx (B : List UInt8) : Tr → List UInt8
 | lf k nm vl x => ltx k nm vl x
 | no t => 33 :: par (decide (t.tight < 3)) (t.tx B)
 | an l r => par (decide (l.tight < 2)) (l.tx B) ++ (B ++ 38 :: (B ++ par (decide (r.tight < 3)) (r.tx B)))
 | o l r => l.tx B ++ (B ++ 124 :: (B ++ par (decide (r.tight < 2)) (r.tx B)))
def txA (B : List UInt8) (k : Nat) (t : Tr) : List UInt8 := par (decide (t.tight < k)) (t.tx B)
end Tr
def nameOk (nm : List UInt8) : Prop := nm.length ≤ 24 ∧ hd lo nm = true ∧ (∀ c ∈ nm, nmc c = true) ∧ nm ≠ anyT
def wordOk (vl : List UInt8) : Prop := vl ≠ [] ∧ vl.length ≤ 32 ∧ ∀ c ∈ vl, wdc c = true
def leafOk (k : Int) (nm vl : List UInt8) (x : Int) : Prop :=
 (k = 1 ∧ nm = [] ∧ vl = [] ∧ x = 0) ∨ ((k = 2 ∨ k = 3) ∧ nameOk nm ∧ wordOk vl ∧ x = 0) ∨ ((k = 4 ∨ k = 5) ∧ nameOk nm ∧ vl = [] ∧ 0 ≤ x ∧ x ≤ 999999999999) ∨ (k = 6 ∧ nameOk nm ∧ vl = [] ∧ x = 0)
def Tr.ok : Tr → Prop
 | .lf k nm vl x => leafOk k nm vl x
 | .no t => t.ok
 | .an l r => l.ok ∧ r.ok
 | .o l r => l.ok ∧ r.ok
theorem nmc_wdc {c : UInt8} (h : nmc c = true) : wdc c = true := by
 unfold nmc at h
 unfold wdc
 simp only [Bool.or_eq_true] at h ⊢; rcases h with (h | h) | h
 ·simp [h]
 ·simp [h]
 ·simp [h]
theorem lo_nmc {c : UInt8} (h : lo c = true) : nmc c = true := by unfold nmc; rw [h]; rfl
theorem dgt_wdc {c : UInt8} (h : dgt c = true) : wdc c = true := by unfold wdc; rw [h]; simp
theorem wdc_sp {c : UInt8} (h : wdc c = true) : sp c = false := by
 unfold sp
 rw [beq_eq_false_iff_ne]; intro e
 unfold wdc lo up dgt at h
 simp [e] at h
theorem hd_mono {p q : UInt8 → Bool} (h : ∀ c, p c = true → q c = true) {r : List UInt8} (hr : hd q r = false) : hd p r = false := by
 cases r with
 | nil => rfl
 | cons c r =>
  show p c = false
  cases hp : p c with
  | false => rfl
  | true =>
   have := h c hp; have h2 : q c = false := hr; rw [h2] at this; cases this
theorem run_eq {p : UInt8 → Bool} {m : Nat} {a b : List UInt8} (ha : ∀ c ∈ a, p c = true) (hl : a.length ≤ m) (hb : hd p b = false) : run m p (a ++ b) = a := by
 unfold run
 rw [List.take_append, List.take_of_length_le hl, List.takeWhile_append_of_pos ha]
 have : List.takeWhile p (List.take (m - a.length) b) = [] := by
  cases b with
  | nil => simp
  | cons c b =>
   cases hm : m - a.length with
   | zero => simp
   | succ k =>
    rw [List.take_succ_cons, List.takeWhile_cons]; have : p c = false := hb; rw [this]; rfl
 rw [this, List.append_nil]
theorem run_len (m : Nat) (p : UInt8 → Bool) (r : List UInt8) : (run m p r).length ≤ m ∧ (run m p r).length ≤ r.length := by
 unfold run
 have h1 : (List.takeWhile p (List.take m r)).length ≤ (List.take m r).length := (List.takeWhile_sublist p).length_le; rw [List.length_take] at h1
 omega
theorem run_all (m : Nat) (p : UInt8 → Bool) (r : List UInt8) : ∀ c ∈ run m p r, p c = true := fun c hc => by
 have := List.all_takeWhile (p := p) (l := List.take m r); exact List.all_eq_true.1 this c hc
theorem blk_head {c : UInt8} {r : List UInt8} (h : sp c = false) : blk (c :: r) = c :: r := by
 unfold blk
 rw [List.dropWhile_cons, h]
 rfl
theorem blk_skip {b r : List UInt8} (h : ∀ c ∈ b, sp c = true) : blk (b ++ r) = blk r := by
 unfold blk
 exact List.dropWhile_append_of_pos h
theorem blk_len (r : List UInt8) : (blk r).length ≤ r.length := (List.dropWhile_sublist sp).length_le
theorem blk_cases (r : List UInt8) : blk r = [] ∨ ∃ c t, blk r = c :: t ∧ sp c = false := by
 cases h : blk r with
 | nil => exact .inl rfl
 | cons c t =>
  refine .inr ⟨c, t, rfl, ?_⟩; have := List.head?_dropWhile_not sp r
  unfold blk at h
  rw [h] at this
  simpa using this
theorem blk_blk (r : List UInt8) : blk (blk r) = blk r := by
 rcases blk_cases r with h | ⟨c, t, h, hc⟩
 ·rw [h]; rfl
 ·rw [h, blk_head hc]
theorem strip_cons (c : UInt8) (r : List UInt8) : strip [c] (c :: r) = some r := by
 unfold strip
 rw [if_pos (by simp)]
 rfl
theorem strip_ne {c d : UInt8} {p r : List UInt8} (h : c ≠ d) : strip (c :: p) (d :: r) = none := by
 unfold strip
 rw [if_neg]; simp only [List.isPrefixOf_cons_cons, Bool.and_eq_true, beq_iff_eq, not_and]; intro e; exact absurd e h
theorem strip_some {p r q : List UInt8} (h : strip p r = some q) : r = p ++ q := by
 unfold strip at h
 split at h
 ·rename_i hp
  rw [List.isPrefixOf_iff_prefix] at hp; obtain ⟨t, rfl⟩ := hp; rw [List.drop_left] at h; cases h; rfl
 ·cases h
theorem strip_len {p r q : List UInt8} (h : strip p r = some q) : q.length + p.length = r.length := by
 rw [strip_some h, List.length_append]; omega
theorem par_false (s : List UInt8) : par false s = s := rfl
theorem par_true (s : List UInt8) : par true s = 40 :: (s ++ [41]) := rfl
theorem dig_one : ∀ v, v < 10 → dgt (UInt8.ofNat (48 + v)) = true ∧ (UInt8.ofNat (48 + v)).toNat = 48 + v := by decide
theorem digV_snoc (s : List UInt8) (c : UInt8) : digV (s ++ [c]) = 10 * digV s + ((c.toNat : Int) - 48) := by
 unfold digV
 rw [List.foldl_append]
 rfl
theorem dec_facts (u : Nat) : (∀ c ∈ Lib.decDigits u, dgt c = true) ∧ digV (Lib.decDigits u) = (u : Int) ∧ Lib.decDigits u ≠ [] := by
 induction u using Nat.strongRecOn with
 | _ u ih =>
  by_cases h : u < 10
  ·obtain ⟨k1, k2⟩ := dig_one u h
   rw [Lib.decDigits, dif_pos h]; refine ⟨fun c hc => ?_, ?_, by simp⟩
   ·simp only [List.mem_singleton] at hc
    subst hc; exact k1
   ·simp only [digV, List.foldl_cons, List.foldl_nil, k2]
    omega
  ·obtain ⟨h1, h2, h3⟩ := ih (u / 10) (by omega)
   obtain ⟨k1, k2⟩ := dig_one (u % 10) (by omega); rw [Lib.decDigits, dif_neg h]; refine ⟨fun c hc => ?_, ?_, by simp⟩
   ·rw [List.mem_append] at hc
    rcases hc with hc | hc
    ·exact h1 c hc
    ·simp only [List.mem_singleton] at hc
     subst hc; exact k1
   ·rw [digV_snoc, h2, k2]
    omega
theorem dec_len : ∀ (k u : Nat), u < 10 ^ (k + 1) → (Lib.decDigits u).length ≤ k + 1
 | 0, u, h => by
  rw [Lib.decDigits, dif_pos (by omega)]
  simp
 | k + 1, u, h => by
  by_cases hu : u < 10
  ·rw [Lib.decDigits, dif_pos hu]
   simp
  ·rw [Lib.decDigits, dif_neg hu, List.length_append]
   have := dec_len k (u / 10) (by rw [Nat.pow_succ] at h; omega); simp only [List.length_cons, List.length_nil]
   omega
theorem digV_bd : ∀ (s : List UInt8) (v : Int) (b : Nat), 0 ≤ v → v < b → (∀ c ∈ s, dgt c = true) →
  0 ≤ s.foldl (fun v c => 10 * v + ((c.toNat : Int) - 48)) v ∧ s.foldl (fun v c => 10 * v + ((c.toNat : Int) - 48)) v < b * 10 ^ s.length
 | [], v, b, h0, h1, _ => by simpa using ⟨h0, h1⟩
 | c :: s, v, b, h0, h1, h => by
  have hc := h c (by simp)
  unfold dgt at hc
  simp only [Bool.and_eq_true, decide_eq_true_eq] at hc; have := digV_bd s (10 * v + ((c.toNat : Int) - 48)) (b * 10) (by omega) (by push_cast; omega) (fun x hx => h x (by simp [hx])); simp only [List.foldl_cons, List.length_cons]; refine ⟨this.1, ?_⟩; have h2 := this.2
  push_cast at h2
  rw [Int.mul_assoc, ← Int.pow_succ'] at h2; exact h2
theorem digV_le {s : List UInt8} (h : ∀ c ∈ s, dgt c = true) (hl : s.length ≤ 12) : 0 ≤ digV s ∧ digV s ≤ 999999999999 := by
 have h1 := digV_bd s 0 1 (by omega) (by omega) h
 have h2 : (10 : Int) ^ s.length ≤ 10 ^ 12 := by
  have : 10 ^ s.length ≤ 10 ^ 12 := Nat.pow_le_pow_right (by omega) hl
  exact_mod_cast this
 refine ⟨h1.1, ?_⟩; have h3 := h1.2; simp only [Int.natCast_one, Int.one_mul] at h3; have : digV s < 10 ^ 12 := Int.lt_of_lt_of_le h3 h2
 omega
end Go.Proofs.YtdemkfhkibmbnaaGreatDoor.Ru
namespace Go.Proofs.YtdemkfhkibmbnaaGreatDoor.Ru
def Fol (r : List UInt8) : Prop := hd wdc r = false ∧ (blk r = [] ∨ ∃ c t, blk r = c :: t ∧ (c = 38 ∨ c = 124 ∨ c = 41))
theorem Fol.strips {r : List UInt8} (h : Fol r) (c : UInt8) (p : List UInt8) (h1 : c ≠ 38) (h2 : c ≠ 124) (h3 : c ≠ 41) : strip (c :: p) (blk r) = none := by
 rcases h.2 with h | ⟨d, t, h, hd⟩
 ·rw [h]; rfl
 ·rw [h]
  refine strip_ne (fun e => ?_); subst e; rcases hd with hd | hd | hd
  ·exact h1 hd
  ·exact h2 hd
  ·exact h3 hd
theorem blk_word {s r : List UInt8} (h0 : s ≠ []) (h : ∀ c ∈ s, wdc c = true) : blk (s ++ r) = s ++ r := by
 cases s with
 | nil => exact absurd rfl h0
 | cons c s => exact blk_head (wdc_sp (h c (by simp)))
theorem wdE_ok {N n : Nat} {L : List Nd} {nm vl r : List UInt8} {k : Int} (hv : wordOk vl) (hr : hd wdc r = false) : wdE N n L nm k (vl ++ r) = .ok (put n L r ⟨k, nm, vl, 0, -1, -1⟩) := by
 unfold wdE
 rw [blk_word hv.1 hv.2.2, run_eq hv.2.2 hv.2.1 hr, if_neg hv.1, List.drop_left]
theorem itoa_facts {x : Int} (h0 : 0 ≤ x) (h1 : x ≤ 999999999999) : (∀ c ∈ Lib.itoa x, dgt c = true) ∧ digV (Lib.itoa x) = x ∧ Lib.itoa x ≠ [] ∧ (Lib.itoa x).length ≤ 12 := by
 obtain ⟨u, rfl⟩ : ∃ u : Nat, x = u := ⟨x.toNat, by omega⟩; rw [Lib.itoa_nonneg]; obtain ⟨k1, k2, k3⟩ := dec_facts u; exact ⟨k1, k2, k3, dec_len 11 u (by omega)⟩
theorem dgE_ok {N n : Nat} {L : List Nd} {nm r : List UInt8} {k x : Int} (h0 : 0 ≤ x) (h1 : x ≤ 999999999999) (hr : hd wdc r = false) : dgE N n L nm k (Lib.itoa x ++ r) = .ok (put n L r ⟨k, nm, [], x, -1, -1⟩) := by
 obtain ⟨k1, k2, k3, k4⟩ := itoa_facts h0 h1
 unfold dgE
 rw [blk_word k3 (fun c hc => dgt_wdc (k1 c hc)), run_eq k1 k4 (hd_mono (fun c hc => dgt_wdc hc) hr), if_neg k3, List.drop_left, k2]
theorem hd_app {p : UInt8 → Bool} {s r : List UInt8} (h : hd p s = true) : hd p (s ++ r) = true := by
 cases s with
 | nil => cases h
 | cons c s => exact h
theorem leafP_name {N n : Nat} {L : List Nd} {nm r : List UInt8} (hn : nameOk nm) (hr : hd wdc r = false) (h64 : n + 1 ≤ 64) : leafP N ⟨n, L, nm ++ r⟩ = opP N (n + 1) L nm (blk r) := by
 have h1 : run 24 nmc (nm ++ r) = nm := run_eq hn.2.2.1 hn.1 (hd_mono (fun c hc => nmc_wdc hc) hr)
 unfold leafP
 simp only [h1, List.drop_left, hr]; rw [if_neg (by rw [hd_app hn.2.1]; simp), if_neg (by simp [hn.2.2.2]), if_neg (by simp), if_neg (by omega)]
theorem leafP_ok {N n : Nat} {L : List Nd} {k x : Int} {nm vl r : List UInt8} (h : leafOk k nm vl x) (hr : Fol r) (h64 : n + 1 ≤ 64) :
  ∃ r', leafP N ⟨n, L, ltx k nm vl x ++ r⟩ = .ok (put (n + 1) L r' ⟨k, nm, vl, x, -1, -1⟩) ∧ blk r' = blk r ∧ r'.length ≤ r.length := by
 rcases h with ⟨rfl, rfl, rfl, rfl⟩ | ⟨hk, hn, hv, rfl⟩ | ⟨hk, hn, rfl, h0, h1⟩ | ⟨rfl, hn, rfl, rfl⟩
 ·refine ⟨r, ?_, rfl, Nat.le_refl _⟩
  have h1 : run 24 nmc (anyT ++ r) = anyT := run_eq (by decide) (by decide) (hd_mono (fun c hc => nmc_wdc hc) hr.1); have h2 : ltx 1 [] [] 0 = anyT := rfl; rw [h2]
  unfold leafP
  simp only [h1, List.drop_left, hr.1]; rw [if_neg (by rw [hd_app (by decide)]; simp), if_pos (by simp), if_neg (by omega)]
 ·rcases hk with rfl | rfl
  ·refine ⟨r, ?_, rfl, Nat.le_refl _⟩
   have h2 : ltx 2 nm vl 0 = nm ++ 61 :: vl := rfl; rw [h2, List.append_assoc, leafP_name hn rfl h64, List.cons_append, blk_head (by decide)]
   unfold opP
   rw [strip_ne (by decide), strip_ne (by decide), strip_ne (by decide), strip_cons]; exact wdE_ok hv hr.1
  ·refine ⟨r, ?_, rfl, Nat.le_refl _⟩
   have h2 : ltx 3 nm vl 0 = nm ++ 33 :: 61 :: vl := rfl; rw [h2, List.append_assoc, leafP_name hn rfl h64, List.cons_append, blk_head (by decide)]
   unfold opP
   have : strip [33, 61] (33 :: (61 :: vl ++ r)) = some (vl ++ r) := by unfold strip; rw [if_pos (by simp)]; rfl
   rw [this]; exact wdE_ok hv hr.1
 ·rcases hk with rfl | rfl
  ·refine ⟨r, ?_, rfl, Nat.le_refl _⟩
   have h2 : ltx 4 nm [] x = nm ++ 62 :: 61 :: Lib.itoa x := rfl; rw [h2, List.append_assoc, leafP_name hn rfl h64, List.cons_append, blk_head (by decide)]
   unfold opP
   have : strip [62, 61] (62 :: (61 :: Lib.itoa x ++ r)) = some (Lib.itoa x ++ r) := by unfold strip; rw [if_pos (by simp)]; rfl
   rw [strip_ne (by decide), this]; exact dgE_ok h0 h1 hr.1
  ·refine ⟨r, ?_, rfl, Nat.le_refl _⟩
   have h2 : ltx 5 nm [] x = nm ++ 60 :: 61 :: Lib.itoa x := rfl; rw [h2, List.append_assoc, leafP_name hn rfl h64, List.cons_append, blk_head (by decide)]
   unfold opP
   have : strip [60, 61] (60 :: (61 :: Lib.itoa x ++ r)) = some (Lib.itoa x ++ r) := by unfold strip; rw [if_pos (by simp)]; rfl
   rw [strip_ne (by decide), strip_ne (by decide), this]; exact dgE_ok h0 h1 hr.1
 ·refine ⟨blk r, ?_, blk_blk r, blk_len r⟩
  have h2 : ltx 6 nm [] 0 = nm := rfl; rw [h2, leafP_name hn hr.1 h64]
  unfold opP
  rw [hr.strips 33 _ (by decide) (by decide) (by decide), hr.strips 62 _ (by decide) (by decide) (by decide), hr.strips 60 _ (by decide) (by decide) (by decide), hr.strips 61 _ (by decide) (by decide) (by decide), hr.strips 33 _ (by decide) (by decide) (by decide), hr.strips 62 _ (by decide) (by decide) (by decide), hr.strips 60 _ (by decide) (by decide) (by decide)]
theorem ltx_head {k x : Int} {nm vl : List UInt8} (h : leafOk k nm vl x) : ∃ c s, ltx k nm vl x = c :: s ∧ lo c = true := by
 have hn : nameOk nm → ∃ c s, nm = c :: s ∧ lo c = true := fun h => by
  cases nm with
  | nil => cases h.2.1
  | cons c s => exact ⟨c, s, rfl, h.2.1⟩
 rcases h with ⟨rfl, rfl, rfl, rfl⟩ | ⟨hk, h, hv, rfl⟩ | ⟨hk, h, rfl, h0, h1⟩ | ⟨rfl, h, rfl, rfl⟩
 ·exact ⟨97, [110, 121], rfl, by decide⟩
 ·obtain ⟨c, s, rfl, hc⟩ := hn h
  rcases hk with rfl | rfl
  ·exact ⟨c, _, rfl, hc⟩
  ·exact ⟨c, _, rfl, hc⟩
 ·obtain ⟨c, s, rfl, hc⟩ := hn h
  rcases hk with rfl | rfl
  ·exact ⟨c, _, rfl, hc⟩
  ·exact ⟨c, _, rfl, hc⟩
 ·obtain ⟨c, s, rfl, hc⟩ := hn h
  exact ⟨c, _, rfl, hc⟩
theorem lo_ne {c : UInt8} (h : lo c = true) : sp c = false ∧ c ≠ 33 ∧ c ≠ 40 := by
 refine ⟨wdc_sp (nmc_wdc (lo_nmc h)), ?_, ?_⟩
 ·rintro rfl; revert h; decide
 ·rintro rfl; revert h; decide
def Bl (B : List UInt8) : Prop := ∀ c ∈ B, sp c = true
theorem fol_op {B : List UInt8} (hB : Bl B) {c : UInt8} (hc : c = 38 ∨ c = 124 ∨ c = 41) (r : List UInt8) : Fol (B ++ c :: r) ∧ blk (B ++ c :: r) = c :: r := by
 have hs : sp c = false := by rcases hc with rfl | rfl | rfl <;> decide
 have hb : blk (B ++ c :: r) = c :: r := by rw [blk_skip hB, blk_head hs]
 refine ⟨⟨?_, .inr ⟨c, r, hb, hc⟩⟩, hb⟩
 cases B with
 | nil => rcases hc with rfl | rfl | rfl <;> (show wdc _ = false; decide)
 | cons d B =>
  show wdc d = false
  have := hB d (by simp)
  cases hw : wdc d with
  | false => rfl
  | true => rw [wdc_sp hw] at this; cases this
def Gives (x : PR) (t : Tr) (n : Nat) (L : List Nd) (r : List UInt8) : Prop :=
 ∃ r', x = .ok ((L.length : Int) + t.size - 1, ⟨n + t.size, L ++ t.flat L.length, r'⟩) ∧ blk r' = blk r ∧ r'.length ≤ r.length
theorem Tr.flat_len (t : Tr) : ∀ b, (t.flat b).length = t.size := by
 induction t with
 | lf k nm vl x => intro b; rfl
 | no t ih => intro b; simp [Tr.flat, Tr.size, ih]
 | an l r ihl ihr => intro b; simp [Tr.flat, Tr.size, ihl, ihr]; omega
 | o l r ihl ihr => intro b; simp [Tr.flat, Tr.size, ihl, ihr]; omega
theorem depA_an (l u : Tr) : (Tr.an l u).depA 2 = max (l.depA 2) (u.depA 3) := by
 unfold Tr.depA
 have e : (Tr.an l u).tight = 2 := rfl; rw [e, if_neg (by omega)]; rfl
theorem depA_o (l u : Tr) : (Tr.o l u).depA 1 = max l.dep (u.depA 2) := by
 unfold Tr.depA
 have e : (Tr.o l u).tight = 1 := rfl; rw [e, if_neg (by omega)]; rfl
theorem Tr.size_pos (t : Tr) : 1 ≤ t.size := by cases t <;> simp [Tr.size]
theorem Tr.tight_pos (t : Tr) : 1 ≤ t.tight := by cases t <;> simp [Tr.tight]
section
variable {N : Nat} {B : List UInt8} (hB : Bl B)
include hB
def NotsOk (N : Nat) (B : List UInt8) (F d : Nat) : Prop := ∀ (t : Tr) (n : Nat) (L : List Nd) (b r : List UInt8), t.ok → Bl b → (b ++ (t.txA B 3 ++ r)).length < F → t.depA 3 + d ≤ 32 → n + t.size ≤ 64 → Fol r →
 Gives (notP N F d ⟨n, L, b ++ (t.txA B 3 ++ r)⟩) t n L r
theorem and_loop {F d : Nat} (H : NotsOk N B F d) : ∀ (t : Tr) (n : Nat) (L : List Nd) (b r : List UInt8), t.ok → Bl b → (b ++ (t.txA B 2 ++ r)).length < F → t.depA 2 + d ≤ 32 → n + t.size ≤ 64 → Fol r →
  ∃ K r', andP N F d ⟨n, L, b ++ (t.txA B 2 ++ r)⟩ = loopP N 38 8 (notP N F d) K ((L.length : Int) + t.size - 1) ⟨n + t.size, L ++ t.flat L.length, r'⟩ ∧ blk r' = blk r ∧ r'.length ≤ r.length ∧ r'.length < K := by
 have base : ∀ (t : Tr), t.txA B 2 = t.txA B 3 → t.depA 2 = t.depA 3 → ∀ (n : Nat) (L : List Nd) (b r : List UInt8), t.ok → Bl b → (b ++ (t.txA B 2 ++ r)).length < F → t.depA 2 + d ≤ 32 → n + t.size ≤ 64 → Fol r →
   ∃ K r', andP N F d ⟨n, L, b ++ (t.txA B 2 ++ r)⟩ = loopP N 38 8 (notP N F d) K ((L.length : Int) + t.size - 1) ⟨n + t.size, L ++ t.flat L.length, r'⟩ ∧ blk r' = blk r ∧ r'.length ≤ r.length ∧ r'.length < K := by
  intro t e1 e2 n L b r ho hb hF hd hn hr; rw [e1] at hF ⊢; rw [e2] at hd; obtain ⟨r', h1, h2, h3⟩ := H t n L b r ho hb hF hd hn hr; refine ⟨r'.length + 1, r', ?_, h2, h3, by omega⟩
  unfold andP pairsP
  rw [h1]
 intro t
 induction t with
 | lf k nm vl x => exact base _ rfl rfl
 | no t _ => exact base _ rfl rfl
 | o l r _ _ => exact base _ rfl rfl
 | an l u ihl _ =>
  intro n L b r ho hb hF hd hn hr
  have etx : (Tr.an l u).txA B 2 ++ r = l.txA B 2 ++ (B ++ 38 :: (B ++ (u.txA B 3 ++ r))) := by
   show (l.txA B 2 ++ (B ++ 38 :: (B ++ u.txA B 3))) ++ r = _
   simp only [List.append_assoc, List.cons_append]
  rw [etx] at hF ⊢; have hdep := depA_an l u; rw [hdep] at hd; have hsz : (Tr.an l u).size = l.size + u.size + 1 := rfl; rw [hsz] at hn ⊢; have hs1 := l.size_pos; have hs2 := u.size_pos; obtain ⟨f1, f2⟩ := fol_op hB (c := 38) (by simp) (B ++ (u.txA B 3 ++ r)); obtain ⟨K, r0, h1, h2, h3, h4⟩ := ihl n L b _ ho.1 hb hF (by omega) (by omega) f1; rw [f2] at h2; have hl0 := blk_len r0; rw [h2] at hl0; simp only [List.length_cons, List.length_append] at hl0 hF; obtain ⟨K', rfl⟩ : ∃ K', K = K' + 1 := ⟨K - 1, by omega⟩; obtain ⟨r', g1, g2, g3⟩ := H u (n + l.size + 1) (L ++ l.flat L.length) B r ho.2 hB (by simp only [List.length_append]; omega) (by omega) (by omega) hr; have hle : (L ++ l.flat L.length).length = L.length + l.size := by rw [List.length_append, l.flat_len]
  refine ⟨K', r', ?_, g2, g3, by omega⟩; rw [h1]
  conv => lhs; unfold loopP
  simp only [h2, strip_cons, g1]; rw [if_neg (by omega)]; have hflat : (Tr.an l u).flat L.length = l.flat L.length ++ u.flat (L.length + l.size) ++ [⟨8, [], [], 0, (L.length : Int) + l.size - 1, (L.length : Int) + l.size + u.size - 1⟩] := rfl; rw [hflat, hle]; have hlen : (L ++ l.flat L.length ++ u.flat (L.length + l.size)).length = L.length + l.size + u.size := by rw [List.length_append, hle, u.flat_len]
  rw [hlen]; have e1 : (((L.length + l.size + u.size : Nat) : Int)) = (L.length : Int) + ((l.size + u.size + 1 : Nat) : Int) - 1 := by push_cast; omega
  have e2 : n + l.size + 1 + u.size = n + (l.size + u.size + 1) := by omega
  have e3 : ((L.length + l.size : Nat) : Int) + u.size - 1 = (L.length : Int) + l.size + u.size - 1 := by push_cast; omega
  rw [e1, e2, e3]; simp only [List.append_assoc]
theorem and_ok {F d : Nat} (H : NotsOk N B F d) (t : Tr) (n : Nat) (L : List Nd) (b r : List UInt8) (ho : t.ok) (hb : Bl b) (hF : (b ++ (t.txA B 2 ++ r)).length < F) (hd : t.depA 2 + d ≤ 32) (hn : n + t.size ≤ 64) (hr : Fol r) (h38 : strip [38] (blk r) = none) :
  Gives (andP N F d ⟨n, L, b ++ (t.txA B 2 ++ r)⟩) t n L r := by
 obtain ⟨K, r', h1, h2, h3, h4⟩ := and_loop hB H t n L b r ho hb hF hd hn hr; obtain ⟨K', rfl⟩ : ∃ K', K = K' + 1 := ⟨K - 1, by omega⟩; refine ⟨blk r', ?_, by rw [blk_blk, h2], Nat.le_trans (blk_len _) h3⟩; rw [h1]
 unfold loopP
 simp only [h2, h38]
theorem or_loop {F d : Nat} (H : NotsOk N B F d) : ∀ (t : Tr) (n : Nat) (L : List Nd) (b r : List UInt8), t.ok → Bl b → (b ++ (t.tx B ++ r)).length < F → t.dep + d ≤ 32 → n + t.size ≤ 64 → Fol r → strip [38] (blk r) = none →
  ∃ K r', orP N F d ⟨n, L, b ++ (t.tx B ++ r)⟩ = loopP N 124 9 (andP N F d) K ((L.length : Int) + t.size - 1) ⟨n + t.size, L ++ t.flat L.length, r'⟩ ∧ blk r' = blk r ∧ r'.length ≤ r.length ∧ r'.length < K := by
 have base : ∀ (t : Tr), t.tx B = t.txA B 2 → t.dep = t.depA 2 → ∀ (n : Nat) (L : List Nd) (b r : List UInt8), t.ok → Bl b → (b ++ (t.tx B ++ r)).length < F → t.dep + d ≤ 32 → n + t.size ≤ 64 → Fol r → strip [38] (blk r) = none →
   ∃ K r', orP N F d ⟨n, L, b ++ (t.tx B ++ r)⟩ = loopP N 124 9 (andP N F d) K ((L.length : Int) + t.size - 1) ⟨n + t.size, L ++ t.flat L.length, r'⟩ ∧ blk r' = blk r ∧ r'.length ≤ r.length ∧ r'.length < K := by
  intro t e1 e2 n L b r ho hb hF hd hn hr h38; rw [e1] at hF ⊢; rw [e2] at hd; obtain ⟨r', h1, h2, h3⟩ := and_ok hB H t n L b r ho hb hF hd hn hr h38; refine ⟨r'.length + 1, r', ?_, h2, h3, by omega⟩
  unfold orP pairsP
  rw [h1]
 intro t
 induction t with
 | lf k nm vl x => exact base _ rfl rfl
 | no t _ => exact base _ rfl rfl
 | an l r _ _ => exact base _ rfl rfl
 | o l u ihl _ =>
  intro n L b r ho hb hF hd hn hr h38
  have etx : (Tr.o l u).tx B ++ r = l.tx B ++ (B ++ 124 :: (B ++ (u.txA B 2 ++ r))) := by
   show (l.tx B ++ (B ++ 124 :: (B ++ u.txA B 2))) ++ r = _
   simp only [List.append_assoc, List.cons_append]
  rw [etx] at hF ⊢; have hdep : (Tr.o l u).dep = max l.dep (u.depA 2) := rfl; rw [hdep] at hd; have hsz : (Tr.o l u).size = l.size + u.size + 1 := rfl; rw [hsz] at hn ⊢; have hs1 := l.size_pos; have hs2 := u.size_pos; obtain ⟨f1, f2⟩ := fol_op hB (c := 124) (by simp) (B ++ (u.txA B 2 ++ r)); obtain ⟨K, r0, h1, h2, h3, h4⟩ := ihl n L b _ ho.1 hb hF (by omega) (by omega) f1 (by rw [f2]; exact strip_ne (by decide)); rw [f2] at h2; have hl0 := blk_len r0; rw [h2] at hl0; simp only [List.length_cons, List.length_append] at hl0 hF; obtain ⟨K', rfl⟩ : ∃ K', K = K' + 1 := ⟨K - 1, by omega⟩; obtain ⟨r', g1, g2, g3⟩ := and_ok hB H u (n + l.size + 1) (L ++ l.flat L.length) B r ho.2 hB (by simp only [List.length_append]; omega) (by omega) (by omega) hr h38; have hle : (L ++ l.flat L.length).length = L.length + l.size := by rw [List.length_append, l.flat_len]
  refine ⟨K', r', ?_, g2, g3, by omega⟩; rw [h1]
  conv => lhs; unfold loopP
  simp only [h2, strip_cons, g1]; rw [if_neg (by omega)]; have hflat : (Tr.o l u).flat L.length = l.flat L.length ++ u.flat (L.length + l.size) ++ [⟨9, [], [], 0, (L.length : Int) + l.size - 1, (L.length : Int) + l.size + u.size - 1⟩] := rfl; rw [hflat, hle]; have hlen : (L ++ l.flat L.length ++ u.flat (L.length + l.size)).length = L.length + l.size + u.size := by rw [List.length_append, hle, u.flat_len]
  rw [hlen]; have e1 : (((L.length + l.size + u.size : Nat) : Int)) = (L.length : Int) + ((l.size + u.size + 1 : Nat) : Int) - 1 := by push_cast; omega
  have e2 : n + l.size + 1 + u.size = n + (l.size + u.size + 1) := by omega
  have e3 : ((L.length + l.size : Nat) : Int) + u.size - 1 = (L.length : Int) + l.size + u.size - 1 := by push_cast; omega
  rw [e1, e2, e3]; simp only [List.append_assoc]
theorem or_ok {F d : Nat} (H : NotsOk N B F d) (t : Tr) (n : Nat) (L : List Nd) (b r : List UInt8) (ho : t.ok) (hb : Bl b) (hF : (b ++ (t.tx B ++ r)).length < F) (hd : t.dep + d ≤ 32) (hn : n + t.size ≤ 64) (hr : Fol r) (h38 : strip [38] (blk r) = none) (h124 : strip [124] (blk r) = none) :
  Gives (orP N F d ⟨n, L, b ++ (t.tx B ++ r)⟩) t n L r := by
 obtain ⟨K, r', h1, h2, h3, h4⟩ := or_loop hB H t n L b r ho hb hF hd hn hr h38; obtain ⟨K', rfl⟩ : ∃ K', K = K' + 1 := ⟨K - 1, by omega⟩; refine ⟨blk r', ?_, by rw [blk_blk, h2], Nat.le_trans (blk_len _) h3⟩; rw [h1]
 unfold loopP
 simp only [h2, h124]
theorem not_ok : ∀ F d, NotsOk N B F d
 | 0, d => fun t n L b r ho hb hF => absurd hF (by omega)
 | F + 1, d => fun t n L b r ho hb hF hd hn hr => by
  have paren : t.txA B 3 = 40 :: (t.tx B ++ [41]) → t.depA 3 = t.dep + 1 → Gives (notP N (F + 1) d ⟨n, L, b ++ (t.txA B 3 ++ r)⟩) t n L r := by
   intro e1 e2; rw [e1] at hF ⊢; rw [e2] at hd; have e3 : 40 :: (t.tx B ++ [41]) ++ r = 40 :: (t.tx B ++ 41 :: r) := by simp
   rw [e3] at hF ⊢; simp only [List.length_append, List.length_cons] at hF; obtain ⟨f1, f2⟩ := fol_op (B := []) (by intro c hc; cases hc) (c := 41) (by simp) r; simp only [List.nil_append] at f1 f2; obtain ⟨r', g1, g2, g3⟩ := or_ok hB (not_ok F (d + 1)) t n L [] (41 :: r) ho (by intro c hc; cases hc) (by simp only [List.nil_append, List.length_append, List.length_cons]; omega) (by omega) hn f1 (by rw [f2]; exact strip_ne (by decide)) (by rw [f2]; exact strip_ne (by decide)); rw [f2] at g2; simp only [List.nil_append] at g1; refine ⟨r, ?_, rfl, Nat.le_refl _⟩
   unfold notP
   simp only [blk_skip hb, blk_head (show sp 40 = false from by decide), strip_ne (show (33 : UInt8) ≠ 40 from by decide), strip_cons]; rw [if_neg (by omega)]
   unfold orP andP at g1
   rw [g1]; simp only [g2, strip_cons]
  match t, ho, paren with
  | .an l u, _, paren => exact paren rfl rfl
  | .o l u, _, paren => exact paren rfl rfl
  | .lf k nm vl x, ho, _ =>
   have e0 : (Tr.lf k nm vl x).txA B 3 = ltx k nm vl x := rfl; rw [e0]; obtain ⟨c, s, hc, hl⟩ := ltx_head ho; obtain ⟨k1, k2, k3⟩ := lo_ne hl; have hn' : n + 1 ≤ 64 := hn; obtain ⟨r', g1, g2, g3⟩ := leafP_ok (N := N) (L := L) ho hr hn'; refine ⟨r', ?_, g2, g3⟩
   unfold notP
   have hb2 : blk (b ++ (ltx k nm vl x ++ r)) = ltx k nm vl x ++ r := by
    rw [blk_skip hb, hc, List.cons_append, blk_head k1]
   have hs1 : strip [33] (ltx k nm vl x ++ r) = none := by rw [hc, List.cons_append]; exact strip_ne (Ne.symm k2)
   have hs2 : strip [40] (ltx k nm vl x ++ r) = none := by rw [hc, List.cons_append]; exact strip_ne (Ne.symm k3)
   simp only [hb2, hs1, hs2, g1]
   unfold put
   have e1 : (Tr.lf k nm vl x).size = 1 := rfl; have e2 : (Tr.lf k nm vl x).flat L.length = [⟨k, nm, vl, x, -1, -1⟩] := rfl; rw [e1, e2]
   simp
  | .no u, ho, _ =>
   have e0 : (Tr.no u).txA B 3 = 33 :: u.txA B 3 := rfl; rw [e0] at hF ⊢; have hsz : (Tr.no u).size = u.size + 1 := rfl; have hdep : (Tr.no u).depA 3 = u.depA 3 + 1 := rfl; rw [hsz] at hn; rw [hdep] at hd; have hs1 := u.size_pos; simp only [List.length_append, List.length_cons] at hF; obtain ⟨r', g1, g2, g3⟩ := not_ok F (d + 1) u (n + 1) L [] r ho (by intro c hc; cases hc) (by simp only [List.nil_append, List.length_append]; omega) (by omega) (by omega) hr; simp only [List.nil_append] at g1; refine ⟨r', ?_, g2, g3⟩
   unfold notP
   simp only [blk_skip hb, List.cons_append, blk_head (show sp 33 = false from by decide), strip_cons, g1]; rw [if_neg (by omega), if_neg (by omega)]
   unfold put
   have e2 : (Tr.no u).flat L.length = u.flat L.length ++ [⟨7, [], [], 0, (L.length : Int) + u.size - 1, -1⟩] := rfl; have hle : (L ++ u.flat L.length).length = L.length + u.size := by rw [List.length_append, u.flat_len]
   rw [hsz, e2, hle]; have e3 : ((L.length + u.size : Nat) : Int) = (L.length : Int) + ((u.size + 1 : Nat) : Int) - 1 := by push_cast; omega
   have e4 : n + 1 + u.size = n + (u.size + 1) := by omega
   rw [e3, e4]; simp only [List.append_assoc]
end
end Go.Proofs.YtdemkfhkibmbnaaGreatDoor.Ru
namespace Go.Proofs.YtdemkfhkibmbnaaGreatDoor.Ru
structure Got (n0 : Nat) (L0 : List Nd) (t : Tr) (i : Int) (s : Ps) : Prop where
 n : s.n = n0 + t.size
 L : s.L = L0 ++ t.flat L0.length
 i : i = (L0.length : Int) + t.size - 1
 most : s.n ≤ 64
theorem run_nm {r : List UInt8} (h : hd lo r = true) : (run 24 nmc r).length ≤ 24 ∧ hd lo (run 24 nmc r) = true ∧ ∀ c ∈ run 24 nmc r, nmc c = true := by
 refine ⟨(run_len _ _ _).1, ?_, run_all _ _ _⟩
 cases r with
 | nil => cases h
 | cons c r =>
  have hc : lo c = true := h
  unfold run
  rw [List.take_succ_cons, List.takeWhile_cons, lo_nmc hc]; exact hc
theorem wdE_is {N n : Nat} {L : List Nd} {nm r : List UInt8} {k i : Int} {s : Ps} (h : wdE N n L nm k r = .ok (i, s)) : ∃ vl, wordOk vl ∧ (i, s) = put n L s.r ⟨k, nm, vl, 0, -1, -1⟩ ∧ s.r.length ≤ r.length := by
 unfold wdE at h
 split at h
 ·cases h
 ·rename_i h0
  simp only [Except.ok.injEq] at h; refine ⟨run 32 wdc (blk r), ⟨h0, (run_len _ _ _).1, run_all _ _ _⟩, ?_, ?_⟩
  ·have : s.r = (blk r).drop (run 32 wdc (blk r)).length := by unfold put at h; cases h; rfl
   rw [this]; exact h.symm
  ·have : s.r = (blk r).drop (run 32 wdc (blk r)).length := by unfold put at h; cases h; rfl
   rw [this, List.length_drop]; have := blk_len r
   omega
theorem dgE_is {N n : Nat} {L : List Nd} {nm r : List UInt8} {k i : Int} {s : Ps} (h : dgE N n L nm k r = .ok (i, s)) : ∃ x, 0 ≤ x ∧ x ≤ 999999999999 ∧ (i, s) = put n L s.r ⟨k, nm, [], x, -1, -1⟩ ∧ s.r.length ≤ r.length := by
 unfold dgE at h
 split at h
 ·cases h
 ·rename_i h0
  simp only [Except.ok.injEq] at h; obtain ⟨h1, h2⟩ := digV_le (run_all 12 dgt (blk r)) (run_len _ _ _).1; refine ⟨digV (run 12 dgt (blk r)), h1, h2, ?_, ?_⟩
  ·have : s.r = (blk r).drop (run 12 dgt (blk r)).length := by unfold put at h; cases h; rfl
   rw [this]; exact h.symm
  ·have : s.r = (blk r).drop (run 12 dgt (blk r)).length := by unfold put at h; cases h; rfl
   rw [this, List.length_drop]; have := blk_len r
   omega
theorem opP_is {N n : Nat} {L : List Nd} {nm r : List UInt8} {i : Int} {s : Ps} (hn : nameOk nm) (h : opP N n L nm r = .ok (i, s)) :
  ∃ k vl x, leafOk k nm vl x ∧ (i, s) = put n L s.r ⟨k, nm, vl, x, -1, -1⟩ ∧ s.r.length ≤ r.length := by
 unfold opP at h
 split at h
 ·rename_i r1 e1
  obtain ⟨vl, h1, h2, h3⟩ := wdE_is h; have := strip_len e1; exact ⟨3, vl, 0, .inr (.inl ⟨.inr rfl, hn, h1, rfl⟩), h2, by omega⟩
 split at h
 ·rename_i r1 e1
  obtain ⟨x, h0, h1, h2, h3⟩ := dgE_is h; have := strip_len e1; exact ⟨4, [], x, .inr (.inr (.inl ⟨.inl rfl, hn, rfl, h0, h1⟩)), h2, by omega⟩
 split at h
 ·rename_i r1 e1
  obtain ⟨x, h0, h1, h2, h3⟩ := dgE_is h; have := strip_len e1; exact ⟨5, [], x, .inr (.inr (.inl ⟨.inr rfl, hn, rfl, h0, h1⟩)), h2, by omega⟩
 split at h
 ·rename_i r1 e1
  obtain ⟨vl, h1, h2, h3⟩ := wdE_is h; have := strip_len e1; exact ⟨2, vl, 0, .inr (.inl ⟨.inl rfl, hn, h1, rfl⟩), h2, by omega⟩
 split at h
 ·cases h
 split at h
 ·cases h
 split at h
 ·cases h
 simp only [Except.ok.injEq] at h; have hr : s.r = r := by unfold put at h; cases h; rfl
 exact ⟨6, [], 0, .inr (.inr (.inr ⟨rfl, hn, rfl, rfl⟩)), by rw [← h, hr], by rw [hr]; exact Nat.le_refl _⟩
theorem leafP_is {N n : Nat} {L : List Nd} {r : List UInt8} {i : Int} {s : Ps} (h : leafP N ⟨n, L, r⟩ = .ok (i, s)) :
  ∃ k nm vl x, leafOk k nm vl x ∧ Got n L (.lf k nm vl x) i s ∧ s.r.length ≤ r.length := by
 have fin : ∀ {k nm vl x}, n + 1 ≤ 64 → leafOk k nm vl x → (i, s) = put (n + 1) L s.r ⟨k, nm, vl, x, -1, -1⟩ → s.r.length ≤ r.length → ∃ k nm vl x, leafOk k nm vl x ∧ Got n L (.lf k nm vl x) i s ∧ s.r.length ≤ r.length := by
  intro k nm vl x h64 h1 h2 h3
  unfold put at h2
  have hi : i = (L.length : Int) := congrArg Prod.fst h2; have hs : s = ⟨n + 1, L ++ [⟨k, nm, vl, x, -1, -1⟩], s.r⟩ := congrArg Prod.snd h2; refine ⟨k, nm, vl, x, h1, ⟨by rw [hs]; rfl, by rw [hs]; rfl, ?_, by rw [hs]; exact h64⟩, h3⟩; rw [hi]; have : (Tr.lf k nm vl x).size = 1 := rfl; rw [this]; omega
 unfold leafP at h
 simp only at h
 split at h
 ·cases h
 rename_i hlo
 have hlo' : hd lo r = true := by simpa using hlo
 obtain ⟨k1, k2, k3⟩ := run_nm hlo'
 split at h
 ·split at h
  ·cases h
  rename_i h64
  simp only [Except.ok.injEq] at h; have hr : s.r = r.drop (run 24 nmc r).length := by unfold put at h; cases h; rfl
  refine fin (by omega) (.inl ⟨rfl, rfl, rfl, rfl⟩) (by rw [← h, hr]) ?_; rw [hr, List.length_drop]; omega
 rename_i hany
 split at h
 ·cases h
 rename_i hw
 split at h
 ·cases h
 rename_i h64
 have hw' : hd wdc (r.drop (run 24 nmc r).length) = false := by simpa using hw
 obtain ⟨k, vl, x, h1, h2, h3⟩ := opP_is ⟨k1, k2, k3, fun e => hany ⟨e, hw'⟩⟩ h; refine fin (by omega) h1 h2 ?_; have h4 := blk_len (r.drop (run 24 nmc r).length); rw [List.length_drop] at h4
 omega
theorem loopP_is {N : Nat} {sg : UInt8} {kd : Int} {nx : Ps → PR} {mk : Tr → Tr → Tr} {Q Q3 : Tr → Prop}
  (hmk : ∀ l r, (mk l r).size = l.size + r.size + 1)
  (hfl : ∀ l r b, (mk l r).flat b = l.flat b ++ r.flat (b + l.size) ++ [⟨kd, [], [], 0, (b : Int) + l.size - 1, (b : Int) + l.size + r.size - 1⟩])
  (hQ : ∀ l r, Q l → Q3 r → Q (mk l r))
  (hnx : ∀ n L r i s, nx ⟨n, L, r⟩ = .ok (i, s) → ∃ t, Q3 t ∧ Got n L t i s ∧ s.r.length ≤ r.length) :
  ∀ (K n0 : Nat) (L0 : List Nd) (tl : Tr) (left : Int) (s : Ps) (i : Int) (s' : Ps), Q tl → Got n0 L0 tl left s → loopP N sg kd nx K left s = .ok (i, s') → ∃ t, Q t ∧ Got n0 L0 t i s' ∧ s'.r.length ≤ s.r.length
 | 0, _, _, _, _, _, _, _, _, _, h => by unfold loopP at h; cases h
 | K + 1, n0, L0, tl, left, s, i, s', hq, hg, h => by
  unfold loopP at h
  split at h
  ·simp only [Except.ok.injEq, Prod.mk.injEq] at h
   obtain ⟨rfl, rfl⟩ := h; exact ⟨tl, hq, ⟨hg.n, hg.L, hg.i, hg.most⟩, blk_len _⟩
  ·rename_i r1 e1
   split at h
   ·cases h
   split at h
   ·cases h
   ·rename_i q hx
    obtain ⟨t3, h1, h2, h3⟩ := hnx _ _ _ q.1 q.2 hx; have hl := strip_len e1; have hb := blk_len s.r; have hsL : s.L.length = L0.length + tl.size := by rw [hg.L, List.length_append, tl.flat_len]
    have hg2 : Got n0 L0 (mk tl t3) (q.2.L.length : Int) ⟨q.2.n, q.2.L ++ [⟨kd, [], [], 0, left, q.1⟩], q.2.r⟩ := by
     refine ⟨?_, ?_, ?_, h2.most⟩
     ·have e1 := h2.n
      have e2 := hg.n; have e3 := hmk tl t3
      show q.2.n = _
      omega
     ·show q.2.L ++ _ = _
      rw [h2.L, hg.L, hfl, List.length_append, tl.flat_len, hg.i, h2.i, hsL]; have : ((L0.length + tl.size : Nat) : Int) + t3.size - 1 = (L0.length : Int) + tl.size + t3.size - 1 := by push_cast; omega
      rw [this]; simp only [List.append_assoc]
     ·rw [h2.L, List.length_append, t3.flat_len, hsL, hmk]
      push_cast; omega
    obtain ⟨t, g1, g2, g3⟩ := loopP_is hmk hfl hQ hnx K n0 L0 (mk tl t3) _ _ i s' (hQ _ _ hq h1) hg2 h; simp only at g3; exact ⟨t, g1, g2, by omega⟩
theorem pairsP_is {N : Nat} {sg : UInt8} {kd : Int} {nx : Ps → PR} {mk : Tr → Tr → Tr} {Q Q3 : Tr → Prop}
  (hmk : ∀ l r, (mk l r).size = l.size + r.size + 1)
  (hfl : ∀ l r b, (mk l r).flat b = l.flat b ++ r.flat (b + l.size) ++ [⟨kd, [], [], 0, (b : Int) + l.size - 1, (b : Int) + l.size + r.size - 1⟩])
  (hQ : ∀ l r, Q l → Q3 r → Q (mk l r)) (hQ3 : ∀ t, Q3 t → Q t)
  (hnx : ∀ n L r i s, nx ⟨n, L, r⟩ = .ok (i, s) → ∃ t, Q3 t ∧ Got n L t i s ∧ s.r.length ≤ r.length)
  (n : Nat) (L : List Nd) (r : List UInt8) (i : Int) (s : Ps) (h : pairsP N sg kd nx ⟨n, L, r⟩ = .ok (i, s)) : ∃ t, Q t ∧ Got n L t i s ∧ s.r.length ≤ r.length := by
 unfold pairsP at h
 split at h
 ·cases h
 ·rename_i q hx
  obtain ⟨t3, h1, h2, h3⟩ := hnx _ _ _ q.1 q.2 hx; obtain ⟨t, g1, g2, g3⟩ := loopP_is hmk hfl hQ hnx _ n L t3 q.1 q.2 i s (hQ3 _ h1) h2 h; exact ⟨t, g1, g2, Nat.le_trans g3 h3⟩
def Deep (k d : Nat) (t : Tr) : Prop := t.ok ∧ t.depA k + d ≤ 32
theorem andP_is {N F d : Nat} (H : ∀ n L r i s, notP N F d ⟨n, L, r⟩ = .ok (i, s) → ∃ t, Deep 3 d t ∧ Got n L t i s ∧ s.r.length ≤ r.length) (n : Nat) (L : List Nd) (r : List UInt8) (i : Int) (s : Ps)
  (h : andP N F d ⟨n, L, r⟩ = .ok (i, s)) : ∃ t, Deep 2 d t ∧ Got n L t i s ∧ s.r.length ≤ r.length := by
 refine pairsP_is (mk := Tr.an) (Q := Deep 2 d) (Q3 := Deep 3 d) (fun _ _ => rfl) (fun _ _ _ => rfl) ?_ ?_ H n L r i s h
 ·intro l r h1 h2
  refine ⟨⟨h1.1, h2.1⟩, ?_⟩; have e := depA_an l r; have := h1.2; have := h2.2; rw [e]; omega
 ·intro t h
  refine ⟨h.1, ?_⟩; have := h.2
  unfold Tr.depA at *
  split <;> split at this <;> omega
theorem orP_is {N F d : Nat} (H : ∀ n L r i s, notP N F d ⟨n, L, r⟩ = .ok (i, s) → ∃ t, Deep 3 d t ∧ Got n L t i s ∧ s.r.length ≤ r.length) (n : Nat) (L : List Nd) (r : List UInt8) (i : Int) (s : Ps)
  (h : orP N F d ⟨n, L, r⟩ = .ok (i, s)) : ∃ t, Deep 1 d t ∧ Got n L t i s ∧ s.r.length ≤ r.length := by
 refine pairsP_is (mk := Tr.o) (Q := Deep 1 d) (Q3 := Deep 2 d) (fun _ _ => rfl) (fun _ _ _ => rfl) ?_ ?_ (andP_is H) n L r i s h
 ·intro l r h1 h2
  refine ⟨⟨h1.1, h2.1⟩, ?_⟩; have e := depA_o l r; have h3 := h1.2; have := h2.2
  unfold Tr.depA at h3
  rw [if_neg (by have := l.tight_pos; omega)] at h3; rw [e]; omega
 ·intro t h
  refine ⟨h.1, ?_⟩; have := h.2; have ht := t.tight_pos
  unfold Tr.depA at *
  split <;> split at this <;> omega
theorem notP_is (N : Nat) : ∀ F d, d ≤ 32 → ∀ n L r i s, notP N F d ⟨n, L, r⟩ = .ok (i, s) → ∃ t, Deep 3 d t ∧ Got n L t i s ∧ s.r.length ≤ r.length
 | 0, _, _, _, _, _, _, _, h => by unfold notP at h; cases h
 | F + 1, d, hd32, n, L, r, i, s, h => by
  have ih := notP_is N F (d + 1); have hb := blk_len r
  unfold notP at h
  simp only at h
  split at h
  ·rename_i r1 e1
   have hl := strip_len e1
   split at h
   ·cases h
   rename_i hd
   split at h
   ·cases h
   split at h
   ·cases h
   ·rename_i q hx
    obtain ⟨t, h1, h2, h3⟩ := ih (by omega) _ _ _ q.1 q.2 hx; simp only [Except.ok.injEq] at h
    unfold put at h
    have hi : (q.2.L.length : Int) = i := congrArg Prod.fst h; have hs : (⟨q.2.n, q.2.L ++ [⟨7, [], [], 0, q.1, -1⟩], q.2.r⟩ : Ps) = s := congrArg Prod.snd h; have hsz : (Tr.no t).size = t.size + 1 := rfl; refine ⟨.no t, ⟨h1.1, ?_⟩, ⟨?_, ?_, ?_, ?_⟩, ?_⟩
    ·have e : (Tr.no t).depA 3 = t.depA 3 + 1 := rfl
     have := h1.2; rw [e]; omega
    ·rw [← hs, hsz]; show q.2.n = _; rw [h2.n]; omega
    ·rw [← hs]
     show q.2.L ++ _ = L ++ (t.flat L.length ++ [_])
     rw [h2.L, h2.i, List.append_assoc]
    ·rw [← hi, h2.L, List.length_append, t.flat_len, hsz]; push_cast; omega
    ·rw [← hs]; exact h2.most
    ·rw [← hs]; simp only at h3 ⊢; omega
  ·split at h
   ·rename_i r1 e1
    have hl := strip_len e1
    split at h
    ·cases h
    rename_i hd
    split at h
    ·cases h
    ·rename_i q hx
     obtain ⟨t, h1, h2, h3⟩ := orP_is (ih (by omega)) _ _ _ q.1 q.2 hx
     split at h
     ·rename_i r3 e3
      have hl3 := strip_len e3; have hb3 := blk_len q.2.r; simp only [Except.ok.injEq, Prod.mk.injEq] at h; obtain ⟨rfl, rfl⟩ := h; refine ⟨t, ⟨h1.1, ?_⟩, ⟨h2.n, h2.L, h2.i, h2.most⟩, by simp only; omega⟩; have := h1.2
      unfold Tr.depA at *
      rw [if_neg (by have := t.tight_pos; omega)] at this
      split <;> omega
     ·cases h
   ·obtain ⟨k, nm, vl, x, h1, h2, h3⟩ := leafP_is h
    refine ⟨.lf k nm vl x, ⟨h1, ?_⟩, h2, Nat.le_trans h3 hb⟩; have e : (Tr.lf k nm vl x).depA 3 = 0 := rfl; rw [e]; omega
def FaultOk (N : Nat) (e : Int × Int) : Prop := (e.1 = 5 ∨ e.1 = 3) ∧ 0 ≤ e.2 ∧ e.2 ≤ N
theorem pos_ok {N : Nat} {r : List UInt8} (h : r.length ≤ N) : 0 ≤ pos N r ∧ pos N r ≤ N := by unfold pos; omega
theorem fault5 {N : Nat} {r : List UInt8} (h : r.length ≤ N) : FaultOk N (5, pos N r) := ⟨.inl rfl, pos_ok h⟩
theorem fault3 {N : Nat} {r : List UInt8} (h : r.length ≤ N) : FaultOk N (3, pos N r) := ⟨.inr rfl, pos_ok h⟩
theorem wdE_err {N n : Nat} {L : List Nd} {nm r : List UInt8} {k : Int} {e : Int × Int} (hN : r.length ≤ N) (h : wdE N n L nm k r = .error e) : FaultOk N e := by
 unfold wdE at h
 split at h
 ·cases h
  exact fault5 (Nat.le_trans (blk_len r) hN)
 ·cases h
theorem dgE_err {N n : Nat} {L : List Nd} {nm r : List UInt8} {k : Int} {e : Int × Int} (hN : r.length ≤ N) (h : dgE N n L nm k r = .error e) : FaultOk N e := by
 unfold dgE at h
 split at h
 ·cases h
  exact fault5 (Nat.le_trans (blk_len r) hN)
 ·cases h
theorem opP_err {N n : Nat} {L : List Nd} {nm r : List UInt8} {e : Int × Int} (hN : r.length ≤ N) (h : opP N n L nm r = .error e) : FaultOk N e := by
 unfold opP at h
 split at h
 ·rename_i e1; have := strip_len e1; exact wdE_err (by omega) h
 split at h
 ·rename_i e1; have := strip_len e1; exact dgE_err (by omega) h
 split at h
 ·rename_i e1; have := strip_len e1; exact dgE_err (by omega) h
 split at h
 ·rename_i e1; have := strip_len e1; exact wdE_err (by omega) h
 split at h
 ·rename_i e1; have := strip_len e1; cases h; exact fault5 (by omega)
 split at h
 ·rename_i e1; have := strip_len e1; cases h; exact fault5 (by omega)
 split at h
 ·rename_i e1; have := strip_len e1; cases h; exact fault5 (by omega)
 cases h
theorem leafP_err {N n : Nat} {L : List Nd} {r : List UInt8} {e : Int × Int} (hN : r.length ≤ N) (h : leafP N ⟨n, L, r⟩ = .error e) : FaultOk N e := by
 have hd' : (r.drop (run 24 nmc r).length).length ≤ N := by rw [List.length_drop]; omega
 unfold leafP at h
 simp only at h
 split at h
 ·cases h; exact fault5 hN
 split at h
 ·split at h
  ·cases h; exact fault3 hN
  ·cases h
 split at h
 ·cases h; exact fault5 hd'
 split at h
 ·cases h; exact fault3 hN
 ·exact opP_err (Nat.le_trans (blk_len _) hd') h
theorem loopP_err {N M : Nat} {sg : UInt8} {kd : Int} {nx : Ps → PR}
  (hnx : ∀ n L r e, r.length ≤ M → nx ⟨n, L, r⟩ = .error e → FaultOk N e)
  (hlen : ∀ n L r i s, nx ⟨n, L, r⟩ = .ok (i, s) → s.r.length ≤ r.length) :
  ∀ (K : Nat) (left : Int) (s : Ps) (e : Int × Int), s.r.length < K → s.r.length ≤ M → s.r.length ≤ N → loopP N sg kd nx K left s = .error e → FaultOk N e
 | 0, _, _, _, hK, _, _, _ => absurd hK (by omega)
 | K + 1, left, s, e, hK, hM, hN, h => by
  have hb := blk_len s.r
  unfold loopP at h
  split at h
  ·cases h
  ·rename_i r1 e1
   have hl := strip_len e1; simp only [List.length_cons, List.length_nil] at hl
   split at h
   ·cases h; exact fault3 (by omega)
   split at h
   ·rename_i e2 hx
    cases h; exact hnx _ _ _ _ (by omega) hx
   ·rename_i q hx
    have := hlen _ _ _ q.1 q.2 hx; exact loopP_err hnx hlen K _ _ e (by simp only; omega) (by simp only; omega) (by simp only; omega) h
theorem loopP_len {N : Nat} {sg : UInt8} {kd : Int} {nx : Ps → PR} (hlen : ∀ n L r i s, nx ⟨n, L, r⟩ = .ok (i, s) → s.r.length ≤ r.length) :
  ∀ (K : Nat) (left : Int) (s : Ps) (i : Int) (s' : Ps), loopP N sg kd nx K left s = .ok (i, s') → s'.r.length ≤ s.r.length
 | 0, _, _, _, _, h => by unfold loopP at h; cases h
 | K + 1, left, s, i, s', h => by
  have hb := blk_len s.r
  unfold loopP at h
  split at h
  ·simp only [Except.ok.injEq, Prod.mk.injEq] at h
   rw [← h.2]; exact hb
  ·rename_i r1 e1
   have hl := strip_len e1
   split at h
   ·cases h
   split at h
   ·cases h
   ·rename_i q hx
    have h1 := hlen _ _ _ q.1 q.2 hx; have h2 := loopP_len hlen K _ _ i s' h; simp only at h2
    omega
theorem pairsP_len {N : Nat} {sg : UInt8} {kd : Int} {nx : Ps → PR} (hlen : ∀ n L r i s, nx ⟨n, L, r⟩ = .ok (i, s) → s.r.length ≤ r.length) (n : Nat) (L : List Nd) (r : List UInt8) (i : Int) (s' : Ps) (h : pairsP N sg kd nx ⟨n, L, r⟩ = .ok (i, s')) : s'.r.length ≤ r.length := by
 unfold pairsP at h
 split at h
 ·cases h
 ·rename_i q hx
  have h1 := hlen _ _ _ q.1 q.2 hx; have h2 := loopP_len hlen _ _ _ i s' h
  omega
theorem pairsP_err {N M : Nat} {sg : UInt8} {kd : Int} {nx : Ps → PR}
  (hnx : ∀ n L r e, r.length ≤ M → nx ⟨n, L, r⟩ = .error e → FaultOk N e)
  (hlen : ∀ n L r i s, nx ⟨n, L, r⟩ = .ok (i, s) → s.r.length ≤ r.length) (hMN : M ≤ N)
  (n : Nat) (L : List Nd) (r : List UInt8) (e : Int × Int) (hr : r.length ≤ M) (h : pairsP N sg kd nx ⟨n, L, r⟩ = .error e) : FaultOk N e := by
 unfold pairsP at h
 split at h
 ·rename_i e2 hx
  cases h; exact hnx _ _ _ _ hr hx
 ·rename_i q hx
  have h1 := hlen _ _ _ q.1 q.2 hx; exact loopP_err hnx hlen _ _ _ e (by omega) (by omega) (by omega) h
theorem notP_len {N F d n : Nat} (hd : d ≤ 32) (L : List Nd) (r : List UInt8) (i : Int) (s : Ps) (h : notP N F d ⟨n, L, r⟩ = .ok (i, s)) : s.r.length ≤ r.length := by
 obtain ⟨t, -, -, h3⟩ := notP_is N F d hd n L r i s h; exact h3
theorem notP_err (N : Nat) : ∀ F d, d ≤ 32 → ∀ n L r e, r.length < F → r.length ≤ N → notP N F d ⟨n, L, r⟩ = .error e → FaultOk N e
 | 0, _, _, _, _, _, _, hF, _, _ => absurd hF (by omega)
 | F + 1, d, hd32, n, L, r, e, hF, hN, h => by
  have hb := blk_len r
  unfold notP at h
  simp only at h
  split at h
  ·rename_i r1 e1
   have hl := strip_len e1; simp only [List.length_cons, List.length_nil] at hl
   split at h
   ·cases h; exact fault3 (by omega)
   rename_i hd
   split at h
   ·cases h; exact fault3 (by omega)
   split at h
   ·rename_i e2 hx
    cases h; exact notP_err N F (d + 1) (by omega) _ _ _ _ (by omega) (by omega) hx
   ·cases h
  ·split at h
   ·rename_i r1 e1
    have hl := strip_len e1; simp only [List.length_cons, List.length_nil] at hl
    split at h
    ·cases h; exact fault3 (by omega)
    rename_i hd
    have hlen := fun n L r i s h => notP_len (N := N) (F := F) (d := d + 1) (n := n) (by omega) L r i s h
    split at h
    ·rename_i e2 hx
     cases h; exact pairsP_err (M := r1.length) (fun n L r e hr hx => pairsP_err (M := r1.length) (fun n L r e hr hx => notP_err N F (d + 1) (by omega) n L r e (by omega) (by omega) hx) hlen (by omega) n L r e hr hx) (pairsP_len hlen) (by omega) _ _ _ _ (Nat.le_refl _) hx
    ·rename_i q hx
     have h1 := pairsP_len (pairsP_len hlen) _ _ _ q.1 q.2 hx; have h2 := blk_len q.2.r
     split at h
     ·cases h
     ·cases h; exact fault5 (by omega)
   ·exact leafP_err (by omega) h
theorem orP_err {N F d n : Nat} (hd : d ≤ 32) {L : List Nd} {r : List UInt8} {e : Int × Int} (hF : r.length < F) (hN : r.length ≤ N) (h : orP N F d ⟨n, L, r⟩ = .error e) : FaultOk N e := by
 have hlen := fun n L r i s h => notP_len (N := N) (F := F) (d := d) (n := n) hd L r i s h
 exact pairsP_err (M := r.length) (fun n L r' e hr hx => pairsP_err (M := r.length) (fun n L r' e hr hx => notP_err N F d hd n L r' e (by omega) (by omega) hx) hlen hN n L r' e hr hx) (pairsP_len hlen) hN _ _ _ _ (Nat.le_refl _) h
theorem parseP_tree {s : List UInt8} {L : List Nd} (h : parseP s = .ok L) : ∃ t : Tr, t.ok ∧ t.dep ≤ 32 ∧ t.size ≤ 64 ∧ L = t.flat 0 ∧ (toldA L).length ≤ 1024 := by
 unfold parseP at h
 split at h
 ·cases h
 split at h
 ·cases h
 ·rename_i q hx
  obtain ⟨t, h1, h2, h3⟩ := orP_is (notP_is _ _ 0 (by omega)) _ _ _ q.1 q.2 hx
  split at h
  ·cases h
  split at h
  ·cases h
  ·rename_i hl
   simp only [Except.ok.injEq] at h; have hL := h2.L; simp only [List.nil_append, List.length_nil] at hL; have hd := h1.2
   unfold Tr.depA at hd
   rw [if_neg (by have := t.tight_pos; omega)] at hd; have hn := h2.n; have hm := h2.most; exact ⟨t, h1.1, by omega, by omega, by rw [← h, hL], by rw [← h]; omega⟩
theorem parseP_fault {s : List UInt8} {e : Int × Int} (h : parseP s = .error e) : (e.1 = 5 ∧ 0 ≤ e.2 ∨ e.1 = 3) ∧ -1 ≤ e.2 ∧ e.2 ≤ s.length := by
 have big : ∀ e, FaultOk s.length e → (e.1 = 5 ∧ 0 ≤ e.2 ∨ e.1 = 3) ∧ -1 ≤ e.2 ∧ e.2 ≤ s.length := fun e h => by
  obtain ⟨h1, h2, h3⟩ := h; rcases h1 with h1 | h1
  ·exact ⟨.inl ⟨h1, h2⟩, by omega, h3⟩
  ·exact ⟨.inr h1, by omega, h3⟩
 unfold parseP at h
 split at h
 ·cases h
  exact ⟨.inr rfl, by simp, by simp only; omega⟩
 split at h
 ·rename_i e2 hx
  cases h; exact big _ (orP_err (by omega) (by omega) (by omega) hx)
 ·rename_i q hx
  split at h
  ·cases h
   obtain ⟨t, h1, h2, h3⟩ := orP_is (notP_is _ _ 0 (by omega)) _ _ _ q.1 q.2 hx; have := blk_len q.2.r; exact big _ (fault5 (by omega))
  split at h
  ·cases h
   exact ⟨.inr rfl, by simp, by simp only; omega⟩
  ·cases h
end Go.Proofs.YtdemkfhkibmbnaaGreatDoor.Ru
namespace Go.Proofs.YtdemkfhkibmbnaaGreatDoor.Ru
def Tr.root (b : Nat) : Tr → Nd
 | .lf k nm vl x => ⟨k, nm, vl, x, -1, -1⟩
 | .no t => ⟨7, [], [], 0, (b : Int) + t.size - 1, -1⟩
 | .an l r => ⟨8, [], [], 0, (b : Int) + l.size - 1, (b : Int) + l.size + r.size - 1⟩
 | .o l r => ⟨9, [], [], 0, (b : Int) + l.size - 1, (b : Int) + l.size + r.size - 1⟩
def Tr.init (b : Nat) : Tr → List Nd
 | .lf _ _ _ _ => []
 | .no t => t.flat b
 | .an l r => l.flat b ++ r.flat (b + l.size)
 | .o l r => l.flat b ++ r.flat (b + l.size)
theorem Tr.flat_eq (t : Tr) (b : Nat) : t.flat b = t.init b ++ [t.root b] := by cases t <;> rfl
theorem Tr.init_len (t : Tr) (b : Nat) : (t.init b).length + 1 = t.size := by
 have := t.flat_len b; rw [t.flat_eq, List.length_append] at this
 simpa using this
theorem at_root (t : Tr) (X Y : List Nd) : (X ++ t.flat X.length ++ Y)[X.length + t.size - 1]? = some (t.root X.length) := by
 have h := t.init_len X.length; rw [t.flat_eq, List.append_assoc, List.append_assoc, List.getElem?_append_right (by omega), List.getElem?_append_right (by omega)]; have : X.length + t.size - 1 - X.length - (t.init X.length).length = 0 := by omega
 rw [this]; rfl
theorem leaf_kind {k x : Int} {nm vl : List UInt8} (h : leafOk k nm vl x) : 1 ≤ k ∧ k ≤ 6 := by
 rcases h with ⟨rfl, _⟩ | ⟨rfl | rfl, _⟩ | ⟨rfl | rfl, _⟩ | ⟨rfl, _⟩ <;> omega
theorem kind_root (t : Tr) (ho : t.ok) (b : Nat) : tightK (t.root b).k = t.tight := by
 cases t with
 | lf k nm vl x =>
  have := leaf_kind ho
  show tightK k = 4
  unfold tightK
  rw [if_neg (by omega), if_neg (by omega), if_neg (by omega)]
 | no t => rfl
 | an l r => rfl
 | o l r => rfl
theorem kindAt_root (t : Tr) (ho : t.ok) (X Y : List Nd) : tightK (kindAt (X ++ t.flat X.length ++ Y) (X.length + t.size - 1)) = t.tight := by
 unfold kindAt
 rw [at_root]; exact kind_root t ho _
theorem told_flat : ∀ (t : Tr) (X Y : List Nd) (F : Nat), t.ok → t.size ≤ F → toldP (X ++ t.flat X.length ++ Y) F (X.length + t.size - 1) = t.tx [32] := by
 intro t
 induction t with
 | lf k nm vl x =>
  intro X Y F ho hF; obtain ⟨G, rfl⟩ : ∃ G, F = G + 1 := ⟨F - 1, by have : (Tr.lf k nm vl x).size = 1 := rfl; omega⟩; have := leaf_kind ho
  unfold toldP
  rw [at_root]
  show (if k = 7 then _ else if k = 8 then _ else if k = 9 then _ else ltx k nm vl x) = _
  rw [if_neg (by omega), if_neg (by omega), if_neg (by omega)]
  rfl
 | no t ih =>
  intro X Y F ho hF; have hsz : (Tr.no t).size = t.size + 1 := rfl; have hp := t.size_pos; obtain ⟨G, rfl⟩ : ∃ G, F = G + 1 := ⟨F - 1, by omega⟩
  unfold toldP
  rw [at_root]
  have hL : X ++ (Tr.no t).flat X.length ++ Y = X ++ t.flat X.length ++ ((Tr.no t).root X.length :: Y) := by
   show X ++ (t.flat X.length ++ [_]) ++ Y = _
   simp only [List.append_assoc, List.singleton_append]
   rfl
  have hi : ((Tr.no t).root X.length).a.toNat = X.length + t.size - 1 := by
   show ((X.length : Int) + t.size - 1).toNat = _
   omega
  show (if ((Tr.no t).root X.length).k = 7 then 33 :: par (decide (tightK (kindAt (X ++ (Tr.no t).flat X.length ++ Y) ((Tr.no t).root X.length).a.toNat) < 3)) (toldP (X ++ (Tr.no t).flat X.length ++ Y) G ((Tr.no t).root X.length).a.toNat) else _) = _
  rw [if_pos (by rfl), hi, hL, kindAt_root t ho, ih X _ G ho (by omega)]
  rfl
 | an l r ihl ihr =>
  intro X Y F ho hF; have hsz : (Tr.an l r).size = l.size + r.size + 1 := rfl; have hp1 := l.size_pos; have hp2 := r.size_pos; obtain ⟨G, rfl⟩ : ∃ G, F = G + 1 := ⟨F - 1, by omega⟩
  unfold toldP
  rw [at_root]
  have hL1 : X ++ (Tr.an l r).flat X.length ++ Y = X ++ l.flat X.length ++ (r.flat (X.length + l.size) ++ (Tr.an l r).root X.length :: Y) := by
   show X ++ (l.flat X.length ++ r.flat (X.length + l.size) ++ [_]) ++ Y = _
   simp only [List.append_assoc, List.singleton_append]
   rfl
  have hXl : (X ++ l.flat X.length).length = X.length + l.size := by rw [List.length_append, l.flat_len]
  have hL2 : X ++ (Tr.an l r).flat X.length ++ Y = (X ++ l.flat X.length) ++ r.flat (X ++ l.flat X.length).length ++ ((Tr.an l r).root X.length :: Y) := by
   rw [hL1, hXl]; simp only [List.append_assoc]
  have h1 : ((Tr.an l r).root X.length).a.toNat = X.length + l.size - 1 := by
   show ((X.length : Int) + l.size - 1).toNat = _
   omega
  have h2 : ((Tr.an l r).root X.length).b.toNat = (X ++ l.flat X.length).length + r.size - 1 := by
   show ((X.length : Int) + l.size + r.size - 1).toNat = _
   omega
  have a1 : toldP (X ++ (Tr.an l r).flat X.length ++ Y) G ((Tr.an l r).root X.length).a.toNat = l.tx [32] := by rw [h1, hL1]; exact ihl X _ G ho.1 (by omega)
  have a2 : toldP (X ++ (Tr.an l r).flat X.length ++ Y) G ((Tr.an l r).root X.length).b.toNat = r.tx [32] := by rw [h2, hL2]; exact ihr _ _ G ho.2 (by omega)
  have k1 : tightK (kindAt (X ++ (Tr.an l r).flat X.length ++ Y) ((Tr.an l r).root X.length).a.toNat) = l.tight := by rw [h1, hL1]; exact kindAt_root l ho.1 _ _
  have k2 : tightK (kindAt (X ++ (Tr.an l r).flat X.length ++ Y) ((Tr.an l r).root X.length).b.toNat) = r.tight := by rw [h2, hL2]; exact kindAt_root r ho.2 _ _
  have e7 : ¬ ((Tr.an l r).root X.length).k = 7 := by show ¬ (8 : Int) = 7; omega
  have e8 : ((Tr.an l r).root X.length).k = 8 := rfl; simp only [a1, a2, k1, k2]; rw [if_neg e7, if_pos e8]
  rfl
 | o l r ihl ihr =>
  intro X Y F ho hF; have hsz : (Tr.o l r).size = l.size + r.size + 1 := rfl; have hp1 := l.size_pos; have hp2 := r.size_pos; obtain ⟨G, rfl⟩ : ∃ G, F = G + 1 := ⟨F - 1, by omega⟩
  unfold toldP
  rw [at_root]
  have hL1 : X ++ (Tr.o l r).flat X.length ++ Y = X ++ l.flat X.length ++ (r.flat (X.length + l.size) ++ (Tr.o l r).root X.length :: Y) := by
   show X ++ (l.flat X.length ++ r.flat (X.length + l.size) ++ [_]) ++ Y = _
   simp only [List.append_assoc, List.singleton_append]
   rfl
  have hXl : (X ++ l.flat X.length).length = X.length + l.size := by rw [List.length_append, l.flat_len]
  have hL2 : X ++ (Tr.o l r).flat X.length ++ Y = (X ++ l.flat X.length) ++ r.flat (X ++ l.flat X.length).length ++ ((Tr.o l r).root X.length :: Y) := by
   rw [hL1, hXl]; simp only [List.append_assoc]
  have h1 : ((Tr.o l r).root X.length).a.toNat = X.length + l.size - 1 := by
   show ((X.length : Int) + l.size - 1).toNat = _
   omega
  have h2 : ((Tr.o l r).root X.length).b.toNat = (X ++ l.flat X.length).length + r.size - 1 := by
   show ((X.length : Int) + l.size + r.size - 1).toNat = _
   omega
  have a1 : toldP (X ++ (Tr.o l r).flat X.length ++ Y) G ((Tr.o l r).root X.length).a.toNat = l.tx [32] := by rw [h1, hL1]; exact ihl X _ G ho.1 (by omega)
  have a2 : toldP (X ++ (Tr.o l r).flat X.length ++ Y) G ((Tr.o l r).root X.length).b.toNat = r.tx [32] := by rw [h2, hL2]; exact ihr _ _ G ho.2 (by omega)
  have k1 : tightK (kindAt (X ++ (Tr.o l r).flat X.length ++ Y) ((Tr.o l r).root X.length).a.toNat) = l.tight := by rw [h1, hL1]; exact kindAt_root l ho.1 _ _
  have k2 : tightK (kindAt (X ++ (Tr.o l r).flat X.length ++ Y) ((Tr.o l r).root X.length).b.toNat) = r.tight := by rw [h2, hL2]; exact kindAt_root r ho.2 _ _
  have e7 : ¬ ((Tr.o l r).root X.length).k = 7 := by show ¬ (9 : Int) = 7; omega
  have e8 : ¬ ((Tr.o l r).root X.length).k = 8 := by show ¬ (9 : Int) = 8; omega
  have e9 : ((Tr.o l r).root X.length).k = 9 := rfl; have hl := l.tight_pos; simp only [a1, a2, k1, k2]; rw [if_neg e7, if_neg e8, if_pos e9, decide_eq_false (by omega), par_false]
  rfl
theorem toldA_flat (t : Tr) (ho : t.ok) : toldA (t.flat 0) = t.tx [32] := by
 unfold toldA
 have := told_flat t [] [] (t.flat 0).length ho (by rw [t.flat_len]; exact Nat.le_refl _); simp only [List.nil_append, List.append_nil, List.length_nil] at this; rw [t.flat_len] at this ⊢; rw [Nat.zero_add] at this; exact this
theorem parse_tx {t : Tr} {B le tr : List UInt8} (ho : t.ok) (hd : t.dep ≤ 32) (hs : t.size ≤ 64) (hB : Bl B) (hle : Bl le) (htr : Bl tr) (hlen : (le ++ (t.tx B ++ tr)).length ≤ 1024) (ht : (t.tx [32]).length ≤ 1024) :
  parseP (le ++ (t.tx B ++ tr)) = .ok (t.flat 0) := by
 have hbt : blk tr = [] := by
  have := blk_skip (r := []) htr; rw [List.append_nil] at this; rw [this]; rfl
 have hw1 : Go.Proofs.YtdemkfhkibmbnaaGreatDoor.Ru.hd wdc tr = false := by
  cases tr with
  | nil => rfl
  | cons c r =>
   show wdc c = false
   have := htr c (by simp)
   cases hw : wdc c with
   | false => rfl
   | true => rw [wdc_sp hw] at this; cases this
 have hfol : Fol tr := ⟨hw1, .inl hbt⟩; obtain ⟨r', h1, h2, h3⟩ := or_ok (N := (le ++ (t.tx B ++ tr)).length) hB (not_ok hB ((le ++ (t.tx B ++ tr)).length + 1) 0) t 0 [] le tr ho hle (by omega) (by omega) (by omega) hfol (by rw [hbt]; rfl) (by rw [hbt]; rfl); rw [hbt] at h2
 unfold parseP
 rw [if_neg (by omega), h1]; simp only [List.nil_append, List.length_nil, h2, ne_eq, not_true_eq_false, if_false]; rw [toldA_flat t ho, if_neg (by omega)]
def parts (n : Nd) : List Int := if n.k = 7 then [n.a] else if n.k = 8 ∨ n.k = 9 then [n.a, n.b] else []
def fineB (i : Nat) (n : Nd) : Bool :=
 (if n.k = 7 then decide (n.b = -1) else if n.k = 8 ∨ n.k = 9 then true else decide (n.a = -1 ∧ n.b = -1)) && (parts n).all (fun k => decide (0 ≤ k ∧ k < i))
def refs (L : List Nd) (j : Nat) : Nat := (L.flatMap parts).count (j : Int)
def shapedB (L : List Nd) : Bool :=
 decide (1 ≤ L.length ∧ L.length ≤ 64) && (List.range L.length).all (fun i => fineB i ((L[i]?).getD ⟨0, [], [], 0, 0, 0⟩)) &&
  (List.range (L.length - 1)).all (fun j => decide (refs L j = 1)) && decide (refs L (L.length - 1) = 0)
theorem refs_app (A C : List Nd) (j : Nat) : refs (A ++ C) j = refs A j + refs C j := by
 unfold refs
 rw [List.flatMap_append, List.count_append]
theorem refs_one (n : Nd) (j : Nat) : refs [n] j = (parts n).count (j : Int) := by unfold refs; simp
theorem refs_flat : ∀ (t : Tr) (b j : Nat), t.ok → refs (t.flat b) j = if b ≤ j ∧ j + 1 < b + t.size then 1 else 0 := by
 intro t
 induction t with
 | lf k nm vl x =>
  intro b j ho; have := leaf_kind ho
  show refs [_] j = _
  rw [refs_one]
  unfold parts
  rw [if_neg (by simp only; omega), if_neg (by simp only; omega), if_neg (by have : (Tr.lf k nm vl x).size = 1 := rfl; omega)]
  rfl
 | no t ih =>
  intro b j ho; have hp := t.size_pos; have hsz : (Tr.no t).size = t.size + 1 := rfl
  show refs (t.flat b ++ [_]) j = _
  rw [refs_app, ih b j ho, refs_one]; have : parts ⟨7, [], [], 0, (b : Int) + t.size - 1, -1⟩ = [(b : Int) + t.size - 1] := rfl; rw [this, List.count_cons, List.count_nil, hsz]
  by_cases h : (b : Int) + t.size - 1 = j
  ·rw [if_neg (by omega), if_pos (by simpa using h), if_pos (by omega)]
  ·rw [if_neg (c := ((b : Int) + t.size - 1 == j) = true) (by simpa using h)]
   split <;> split <;> omega
 | an l r ihl ihr =>
  intro b j ho; have hp1 := l.size_pos; have hp2 := r.size_pos; have hsz : (Tr.an l r).size = l.size + r.size + 1 := rfl
  show refs (l.flat b ++ r.flat (b + l.size) ++ [_]) j = _
  rw [refs_app, refs_app, ihl b j ho.1, ihr _ j ho.2, refs_one]; have : parts ⟨8, [], [], 0, (b : Int) + l.size - 1, (b : Int) + l.size + r.size - 1⟩ = [(b : Int) + l.size - 1, (b : Int) + l.size + r.size - 1] := rfl; rw [this, List.count_cons, List.count_cons, List.count_nil, hsz]; simp only [beq_iff_eq]
  repeat' split
  all_goals omega
 | o l r ihl ihr =>
  intro b j ho; have hp1 := l.size_pos; have hp2 := r.size_pos; have hsz : (Tr.o l r).size = l.size + r.size + 1 := rfl
  show refs (l.flat b ++ r.flat (b + l.size) ++ [_]) j = _
  rw [refs_app, refs_app, ihl b j ho.1, ihr _ j ho.2, refs_one]; have : parts ⟨9, [], [], 0, (b : Int) + l.size - 1, (b : Int) + l.size + r.size - 1⟩ = [(b : Int) + l.size - 1, (b : Int) + l.size + r.size - 1] := rfl; rw [this, List.count_cons, List.count_cons, List.count_nil, hsz]; simp only [beq_iff_eq]
  repeat' split
  all_goals omega
theorem fine_flat : ∀ (t : Tr) (b i : Nat) (n : Nd), t.ok → (t.flat b)[i]? = some n → fineB (b + i) n = true := by
 intro t
 induction t with
 | lf k nm vl x =>
  intro b i n ho h; have := leaf_kind ho
  have hn : n = ⟨k, nm, vl, x, -1, -1⟩ := by
   cases i with
   | zero => exact (Option.some.inj h).symm
   | succ i => simp [Tr.flat] at h
  subst hn
  unfold fineB parts
  rw [if_neg (by simp only; omega), if_neg (by simp only; omega), if_neg (by simp only; omega), if_neg (by simp only; omega)]
  rfl
 | no t ih =>
  intro b i n ho h; have hp := t.size_pos; have h' : (t.flat b ++ [(⟨7, [], [], 0, (b : Int) + t.size - 1, -1⟩ : Nd)])[i]? = some n := h
  by_cases hi : i < t.size
  ·rw [List.getElem?_append_left (by rw [t.flat_len]; exact hi)] at h'
   exact ih b i n ho h'
  ·rw [List.getElem?_append_right (by rw [t.flat_len]; omega), t.flat_len] at h'
   have e : i - t.size = 0 := by
    rcases Nat.eq_zero_or_pos (i - t.size) with e | e
    ·exact e
    ·rw [List.getElem?_eq_none (by simp only [List.length_cons, List.length_nil]; omega)] at h'; cases h'
   rw [e] at h'; simp only [List.getElem?_cons_zero, Option.some.injEq] at h'; subst h'
   unfold fineB parts
   simp
   omega
 | an l r ihl ihr =>
  intro b i n ho h; have hp1 := l.size_pos; have hp2 := r.size_pos; have h' : (l.flat b ++ (r.flat (b + l.size) ++ [(⟨8, [], [], 0, (b : Int) + l.size - 1, (b : Int) + l.size + r.size - 1⟩ : Nd)]))[i]? = some n := by rw [← List.append_assoc]; exact h
  by_cases hi : i < l.size
  ·rw [List.getElem?_append_left (by rw [l.flat_len]; exact hi)] at h'
   exact ihl b i n ho.1 h'
  rw [List.getElem?_append_right (by rw [l.flat_len]; omega), l.flat_len] at h'
  by_cases hi2 : i - l.size < r.size
  ·rw [List.getElem?_append_left (by rw [r.flat_len]; exact hi2)] at h'
   have := ihr (b + l.size) (i - l.size) n ho.2 h'; have e : b + l.size + (i - l.size) = b + i := by omega
   rw [e] at this; exact this
  ·rw [List.getElem?_append_right (by rw [r.flat_len]; omega), r.flat_len] at h'
   have e : i - l.size - r.size = 0 := by
    rcases Nat.eq_zero_or_pos (i - l.size - r.size) with e | e
    ·exact e
    ·rw [List.getElem?_eq_none (by simp only [List.length_cons, List.length_nil]; omega)] at h'; cases h'
   rw [e] at h'; simp only [List.getElem?_cons_zero, Option.some.injEq] at h'; subst h'
   unfold fineB parts
   simp
   omega
 | o l r ihl ihr =>
  intro b i n ho h; have hp1 := l.size_pos; have hp2 := r.size_pos; have h' : (l.flat b ++ (r.flat (b + l.size) ++ [(⟨9, [], [], 0, (b : Int) + l.size - 1, (b : Int) + l.size + r.size - 1⟩ : Nd)]))[i]? = some n := by rw [← List.append_assoc]; exact h
  by_cases hi : i < l.size
  ·rw [List.getElem?_append_left (by rw [l.flat_len]; exact hi)] at h'
   exact ihl b i n ho.1 h'
  rw [List.getElem?_append_right (by rw [l.flat_len]; omega), l.flat_len] at h'
  by_cases hi2 : i - l.size < r.size
  ·rw [List.getElem?_append_left (by rw [r.flat_len]; exact hi2)] at h'
   have := ihr (b + l.size) (i - l.size) n ho.2 h'; have e : b + l.size + (i - l.size) = b + i := by omega
   rw [e] at this; exact this
  ·rw [List.getElem?_append_right (by rw [r.flat_len]; omega), r.flat_len] at h'
   have e : i - l.size - r.size = 0 := by
    rcases Nat.eq_zero_or_pos (i - l.size - r.size) with e | e
    ·exact e
    ·rw [List.getElem?_eq_none (by simp only [List.length_cons, List.length_nil]; omega)] at h'; cases h'
   rw [e] at h'; simp only [List.getElem?_cons_zero, Option.some.injEq] at h'; subst h'
   unfold fineB parts
   simp
   omega
theorem shaped_flat (t : Tr) (ho : t.ok) (hs : t.size ≤ 64) : shapedB (t.flat 0) = true := by
 have hp := t.size_pos
 unfold shapedB
 rw [t.flat_len]; simp only [Bool.and_eq_true, decide_eq_true_eq, List.all_eq_true, List.mem_range]; refine ⟨⟨⟨⟨hp, hs⟩, fun i hi => ?_⟩, fun j hj => ?_⟩, ?_⟩
 ·have hlt : i < (t.flat 0).length := by rw [t.flat_len]; exact hi
  rw [List.getElem?_eq_getElem hlt]; have := fine_flat t 0 i _ ho (List.getElem?_eq_getElem hlt); rw [Nat.zero_add] at this; exact this
 ·rw [refs_flat t 0 j ho, if_pos (by omega)]
 ·rw [refs_flat t 0 _ ho, if_neg (by omega)]
def checkP (L : List Nd) : Int := if shapedB L = true then (match parseP (toldA L) with | .ok M => if M = L then 0 else 2 | .error _ => 2) else 2
theorem check_parse {s : List UInt8} {L : List Nd} (h : parseP s = .ok L) : parseP (toldA L) = .ok L ∧ checkP L = 0 ∧ 1 ≤ L.length ∧ L.length ≤ 64 := by
 obtain ⟨t, h1, h2, h3, rfl, h5⟩ := parseP_tree h; rw [toldA_flat t h1] at h5
 have hb : parseP (toldA (t.flat 0)) = .ok (t.flat 0) := by
  rw [toldA_flat t h1]; have := parse_tx (B := [32]) (le := []) (tr := []) h1 h2 h3 (by intro c hc; simp at hc; subst hc; rfl) (by intro c hc; cases hc) (by intro c hc; cases hc) (by simpa using h5) h5
  simpa using this
 refine ⟨hb, ?_, by rw [t.flat_len]; exact t.size_pos, by rw [t.flat_len]; exact h3⟩
 unfold checkP
 rw [if_pos (shaped_flat t h1 h3), hb]
 simp
section
variable {g : UInt8 → List UInt8} (hg : ∀ c, c ≠ 32 → g c = [c])
include hg
end
theorem parse_long {s : List UInt8} (h : 1024 < s.length) : parseP s = .error (3, -1) := by unfold parseP; rw [if_pos h]
