/- FtPlain, FdDig, RdPlain, RdName, FdName, FtLaw, Sum, FdPlain, FtName. -/
import Derived.Test.YtdemkfhkibmbnaaGreatDoorRuAttrs
import Derived.Test.YtdemkfhkibmbnaaGreatDoorM25
import Derived.Test.YtdemkfhkibmbnaaGreatDoorM11
set_option maxRecDepth 100000
set_option maxHeartbeats 8000000
namespace Go.Proofs.YtdemkfhkibmbnaaGreatDoor.Ft
open Go.RowKit Go.Proofs.YtdemkfhkibmbnaaGreatDoor Go.Proofs.YtdemkfhkibmbnaaGreatDoor.Ru
structure Us where
 j : List UInt8
 i : Int
 d : Int
 a : Am
 n : List UInt8
 e : Bool
 deriving DecidableEq
structure Vw where
 nm : List UInt8
 at' : List Ru.At
 cap : Am
 up : Bool
 us : List Us
structure Ne where
 j : List UInt8
 d : Int
 a : Am
 L : List Nd
 n : List UInt8
def specB (l : List UInt8) : Bool := decide (1 ≤ l.length ∧ l.length ≤ 16) && hd lo l && l.all nmc
def taskO (j : List UInt8) (i : Int) : Option (List UInt8) := if specB j = true ∧ 0 ≤ i ∧ i < 64 then some (j ++ 46 :: Lib.itoa i) else none
def inP (l : List Us) (p : List UInt8) : List Us := l.filter fun u => u.n == p
def takeP : Am → List Us → Option Am
 | a, [] => some a
 | a, u :: l => if (subR a u.a).2 = 0 then takeP (subR a u.a).1 l else none
def isEnv (p : List UInt8) (u : Us) : Bool := u.e && u.n == [] && taskO u.j u.i == some p
def envP (l : List Us) (p : List UInt8) : Option Us := l.find? (isEnv p)
def roomP (V : Vw) (p : List UInt8) : Option Am := if p = [] then takeP V.cap (inP V.us p) else match envP V.us p with | none => none | some u => takeP u.a (inP V.us p)
def fineP (u : Us) : Bool := (taskO u.j u.i).isSome && !(u.e && !(u.n == [])) && decide (0 ≤ u.d) && decide (u.d ≤ 3) && u.a.okB
def keyU (u : Us) : List UInt8 × Int := (u.j, u.i)
def checkV (V : Vw) : Bool := decide (1 ≤ V.nm.length ∧ V.nm.length ≤ 16) && decide (attrsR V.at' = 0) && V.cap.okB && V.us.all fineP && decide ((V.us.map keyU).Nodup) && V.us.all (fun u => (roomP V u.n).isSome)
def anyL : List Nd := [⟨1, [], [], 0, -1, -1⟩]
def checkN (N : Ne) : Bool := specB N.j && decide (0 ≤ N.d) && decide (N.d ≤ 3) && N.a.okB && !(decide (N.a = Am.zero)) && decide (checkP N.L = 0) && (N.n == [] || (specB N.n && decide (N.L = anyL)))
def goer (N : Ne) (p : List UInt8) (u : Us) : Bool := !u.e && u.n == p && decide (u.d < N.d) && decide (u.d < 2)
def goersP (N : Ne) (V : Vw) (p : List UInt8) : List Us := V.us.filter (goer N p)
def addAll (a : Am) (l : List Us) : Am := l.foldl (fun f u => (addR f u.a).1) a
def atP (N : Ne) (V : Vw) (p : List UInt8) : Int :=
 if fitsB N.a ((roomP V p).getD Am.zero) = true then 2 else if fitsB N.a (addAll ((roomP V p).getD Am.zero) (goersP N V p)) = true then 1 else 0
def nmU (u : Us) : List UInt8 := (taskO u.j u.i).getD []
def envs (N : Ne) (V : Vw) : List Us := V.us.filter fun u => u.e && u.n == [] && u.j == N.n
def stepF (N : Ne) (V : Vw) (s : Int × List UInt8 × Int) (u : Us) : Int × List UInt8 × Int :=
 if atP N V (nmU u) > s.1 ∨ (atP N V (nmU u) = s.1 ∧ atP N V (nmU u) > 0 ∧ u.i < s.2.2) then (atP N V (nmU u), nmU u, u.i) else s
def bestP (N : Ne) (V : Vw) : Int × List UInt8 × Int := (envs N V).foldl (stepF N V) (0, [], 0)
def fitP (N : Ne) (V : Vw) : Int × List UInt8 × Int :=
 if checkN N = false then (0, [], 2) else if checkV V = false then (0, [], 2)
 else if V.up = false ∨ (holdsR N.L V.at').1 = false then (0, [], 0)
 else if N.n = [] then (atP N V [], [], 0) else ((bestP N V).1, (bestP N V).2.1, 0)
def roomR (V : Vw) (p : List UInt8) : Am × Int := if checkV V = false then (Am.zero, 2) else match roomP V p with | some a => (a, 0) | none => (Am.zero, 2)
def goersR (N : Ne) (V : Vw) (p : List UInt8) : List Us × Int :=
 if checkN N = false then ([], 2) else if (roomR V p).2 = 0 then (goersP N V p, 0) else ([], (roomR V p).2)
def sumK (l : List Us) (k : Nat) : Int := (l.map (fun u => u.a.get k)).sum
theorem sumK_nil (k : Nat) : sumK [] k = 0 := rfl
theorem sumK_cons (u : Us) (l : List Us) (k : Nat) : sumK (u :: l) k = u.a.get k + sumK l k := by unfold sumK; simp
def Oks (l : List Us) : Prop := ∀ u ∈ l, u.a.okB = true
theorem sumK_nonneg {l : List Us} (h : Oks l) {k : Nat} (hk : k < 4) : 0 ≤ sumK l k := by
 induction l with
 | nil => simp [sumK_nil]
 | cons u l ih =>
  rw [sumK_cons]; have h1 := ok_get (h u (by simp)) hk; have h2 := ih (fun x hx => h x (by simp [hx]))
  omega
theorem fits_iff {x y : Am} : fitsB x y = true ↔ ∀ k, k < 4 → x.get k ≤ y.get k := by
 unfold fitsB
 constructor
 ·intro h k hk
  have h2 : any4 (fun k => decide (y.get k < x.get k)) = false := by simpa using h
  have := any4_false h2 hk
  simpa using this
 ·intro h
  rw [any4_no (fun k hk => by have := h k hk; simpa using this)]
  rfl
theorem sub_iff {a b : Am} : (subR a b).2 = 0 ↔ a.okB = true ∧ b.okB = true ∧ fitsB b a = true := by
 unfold subR
 cases h1 : a.okB <;> cases h2 : b.okB <;> cases h3 : fitsB b a <;> simp
theorem sub_get {a b : Am} (h : (subR a b).2 = 0) {k : Nat} (hk : k < 4) : (subR a b).1.get k = a.get k - b.get k := by
 obtain ⟨h1, h2, h3⟩ := sub_iff.1 h
 unfold subR
 rw [if_neg (by rw [h1, h2]; decide), if_neg (by rw [h3]; decide)]; exact Am.of_get _ k hk
theorem take_get : ∀ {l : List Us} {a r : Am}, a.okB = true → takeP a l = some r → ∀ k, k < 4 → r.get k = a.get k - sumK l k ∧ r.okB = true
 | [], a, r, ha, h, k, hk => by
  unfold takeP at h
  cases h; rw [sumK_nil]; exact ⟨by omega, ha⟩
 | u :: l, a, r, ha, h, k, hk => by
  unfold takeP at h
  by_cases hs : (subR a u.a).2 = 0
  ·rw [if_pos hs] at h
   obtain ⟨h1, h2, h3⟩ := sub_iff.1 hs; have h4 := fits_iff.1 h3
   have hok : (subR a u.a).1.okB = true := (Am.okB_iff _).2 fun q hq => by
    rw [sub_get hs hq]; have := ok_get h1 hq; have := ok_get h2 hq; have := h4 q hq
    omega
   obtain ⟨g1, g2⟩ := take_get hok h k hk; rw [sub_get hs hk] at g1; rw [sumK_cons]; exact ⟨by omega, g2⟩
  ·rw [if_neg hs] at h; cases h
theorem take_of : ∀ {l : List Us} {a : Am}, a.okB = true → Oks l → (∀ k, k < 4 → sumK l k ≤ a.get k) → ∃ r, takeP a l = some r
 | [], a, _, _, _ => ⟨a, rfl⟩
 | u :: l, a, ha, ho, h => by
  have hol : Oks l := fun x hx => ho x (by simp [hx])
  have hs : (subR a u.a).2 = 0 := sub_iff.2 ⟨ha, ho u (by simp), fits_iff.2 fun k hk => by
   have h1 := h k hk; rw [sumK_cons] at h1; have := sumK_nonneg hol hk
   omega⟩
  unfold takeP
  rw [if_pos hs]
  refine take_of ((Am.okB_iff _).2 fun q hq => ?_) hol fun k hk => ?_
  ·rw [sub_get hs hq]
   have h1 := h q hq; rw [sumK_cons] at h1; have := sumK_nonneg hol hq; have := ok_get ha hq; have := ok_get (ho u (by simp)) hq
   omega
  ·rw [sub_get hs hk]
   have h1 := h k hk; rw [sumK_cons] at h1
   omega
theorem take_fits {l : List Us} {a r : Am} (ha : a.okB = true) (h : takeP a l = some r) (k : Nat) (hk : k < 4) : sumK l k ≤ a.get k := by
 obtain ⟨g1, g2⟩ := take_get ha h k hk; have := ok_get g2 hk
 omega
theorem add_get {a b : Am} (ha : a.okB = true) (hb : b.okB = true) (h : ∀ k, k < 4 → a.get k + b.get k ≤ 1099511627776) {k : Nat} (hk : k < 4) : (addR a b).1.get k = a.get k + b.get k ∧ (addR a b).1.okB = true := by
 have e := addR_ok (z := Am.of fun k => a.get k + b.get k) (by rw [ha, hb]; rfl) h (fun k hk => Am.of_get _ k hk); rw [e]; refine ⟨Am.of_get _ k hk, (Am.okB_iff _).2 fun q hq => ?_⟩; rw [Am.of_get _ q hq]; have := ok_get ha hq; have := ok_get hb hq; have := h q hq
 omega
end Go.Proofs.YtdemkfhkibmbnaaGreatDoor.Ft
namespace Go.Proofs.YtdemkfhkibmbnaaGreatDoor
open Go.RowKit
theorem Ft.below_dr {n : Nat} {w w' : World} (h : Below n w w') : Below n w w'.drew := Below.drewN' h 1
theorem Ft.dig_sm : ∀ v, v < 10 → Ru.dgt (UInt8.ofNat (48 + v)) = true ∧ (UInt8.ofNat (48 + v)).toNat = 48 + v := by decide
theorem rd_one (w : World) (c : UInt8) (n : Int) (hn : n = (c.toNat : Int)) : Rd (w.alloc (.cells #[.int .u8 n] 5)) (.slice (some ⟨w.heap.size, 0, none⟩) 1 1) [c] := by
 subst hn; exact row_block (us := [B c]) (heap_alloc_new w _) (by simp [maxLen]) (by intro u hu; simp at hu; subst hu; rfl)
theorem conv_one (w : World) (c : UInt8) (n : Int) (hn : n = (c.toNat : Int)) : (convert 94 9 (.slice (some ⟨w.heap.size, 0, none⟩) 1 1)).run Tryz.prog (w.alloc (.cells #[.int .u8 n] 5)) = .ok (.string ⟨#[c]⟩) (w.alloc (.cells #[.int .u8 n] 5)) :=
 run_str (rd_one w c n hn) Tryz.underlying94 Tryz.underlying5 9 Tryz.underlying9
theorem dec_len (u : Nat) (hu : u ≤ 1099511627776) : (Lib.decDigits u).length ≤ 21 := by
 have := Lib.itoa_length_le (u : Int) (by omega) (by omega)
 rwa [Lib.itoa_nonneg] at this
theorem rdigits_any (u : Nat) : u ≤ 1099511627776 → ∀ w, Calls Tryz.prog 85 #[.int .i64 (u : Int)] w fun e w' => e = .returned (.string ⟨(Lib.decDigits u).toArray⟩) ∧ Below w.heap.size w w' := by
 induction u using Nat.strongRecOn with
 | _ u ih =>
  intro hu w
  by_cases h : u < 10
  ·have hk := (Ft.dig_sm u h).2
   obtain ⟨c, hc⟩ : ∃ c, c = UInt8.ofNat (48 + u) := ⟨_, rfl⟩; rw [← hc] at hk; have HD : Hid (Lib.decDigits u = [c]) := zz (by rw [Lib.decDigits, dif_pos h, hc])
   have hcv := fun w => conv_one w c (48 + (u : Int)) (by rw [hk]; omega)
   have s1 : IntKind.i64.wrap (48 + (u : Int)) = 48 + (u : Int) := IntWalk.i64_in _ (by omega); have s2 : IntKind.u8.wrap (48 + (u : Int)) = 48 + (u : Int) := IntWalk.u8_in _ (by omega); have d1 : decide ((u : Int) < 10) = true := by simp; omega
   clear ih hk hc; go_enter Tryz.func85, Tryz.ntmps85; go_wp2_with fail; go_ret; exact ⟨by rw [HD.o]; rfl, below_alloc w _⟩
  ·have hk := (Ft.dig_sm (u % 10) (by omega)).2
   obtain ⟨c, hc⟩ : ∃ c, c = UInt8.ofNat (48 + u % 10) := ⟨_, rfl⟩; obtain ⟨sQ, hsQ⟩ : ∃ sQ : ByteArray, sQ = ⟨(Lib.decDigits (u / 10)).toArray⟩ := ⟨_, rfl⟩
   have HD : Hid ((⟨(Lib.decDigits u).toArray⟩ : ByteArray) = sQ ++ ⟨#[c]⟩) := zz (by
    rw [Lib.decDigits, dif_neg h, hsQ, hc]
    apply ByteArray.ext
    simp [ByteArray.data_append])
   have hln : sQ.size ≤ 21 := by rw [hsQ]; show (Lib.decDigits (u / 10)).toArray.size ≤ 21; simpa using dec_len (u / 10) (by omega)
   obtain ⟨q, hq⟩ : ∃ q : Int, q = ((u / 10 : Nat) : Int) := ⟨_, rfl⟩; obtain ⟨d, hd⟩ : ∃ d : Int, d = ((u % 10 : Nat) : Int) := ⟨_, rfl⟩; have HI : Hid (∀ w, Calls Tryz.prog 85 #[.int .i64 q] w fun e w' => e = .returned (.string sQ) ∧ Below w.heap.size w w') := zz (fun w => by rw [hq, hsQ]; exact ih (u / 10) (by omega) (by omega) w); have hb0 : 0 ≤ d ∧ d ≤ 9 := by omega
   have HCV : Hid (∀ w : World, (convert 94 9 (.slice (some ⟨w.heap.size, 0, none⟩) 1 1)).run Tryz.prog (w.alloc (.cells #[.int .u8 (48 + d)] 5)) = .ok (.string ⟨#[c]⟩) (w.alloc (.cells #[.int .u8 (48 + d)] 5))) := zz (fun w => conv_one w c (48 + d) (by rw [hc, hk]; omega)); have HRD : Hid (∀ w w' : World, Below (w.alloc (.cells #[.int .u8 (48 + d)] 5)).heap.size (w.alloc (.cells #[.int .u8 (48 + d)] 5)) w' → (convert 94 9 (.slice (some ⟨w.heap.size, 0, none⟩) 1 1)).run Tryz.prog w' = .ok (.string ⟨#[c]⟩) w') := zz (fun w w' hb => run_str ((rd_one w c (48 + d) (by rw [hc, hk]; omega)).below hb) Tryz.underlying94 Tryz.underlying5 9 Tryz.underlying9); have u1 : IntKind.i64.wrap ((u : Int).tdiv 10) = q := by rw [Int.tdiv_eq_ediv_of_nonneg (by omega), IntKind.wrap_i64, hq]; omega
   have u1' : wrap64 ((u : Int).tdiv 10) = q := by rw [← IntWalk.i64_left]; exact u1
   have u1q : IntKind.i64.wrap ((u : Int) / 10) = q := by rw [IntKind.wrap_i64, hq]; omega
   have u2 : (u : Int).tmod 10 = d := by rw [IntWalk.rem_in _ _ (by omega), hd]; omega
   have u3 : IntKind.i64.wrap d = d := IntWalk.i64_in _ (by omega); have s1 : IntKind.i64.wrap (48 + d) = 48 + d := IntWalk.i64_in _ (by omega); have s2 : IntKind.u8.wrap (48 + d) = 48 + d := IntWalk.u8_in _ (by omega)
   have hadd : ∀ w, (Op.stringOp .add sQ ⟨#[c]⟩).run Tryz.prog w = .ok (.string (sQ ++ ⟨#[c]⟩)) w := fun w => run_string_add_sum w sQ ⟨#[c]⟩ (by show sQ.size + 1 ≤ _; omega)
   have d1 : decide ((u : Int) < 10) = false := by simp; omega
   have c1 : (convert 94 9 (.slice (some ⟨w.heap.size, 0, none⟩) 1 1)).run Tryz.prog (w.drew.alloc (.cells #[.int .u8 (48 + d)] 5)) = .ok (.string ⟨#[c]⟩) (w.drew.alloc (.cells #[.int .u8 (48 + d)] 5)) := HCV.o w.drew; have c2 : (convert 94 9 (.slice (some ⟨w.heap.size, 0, none⟩) 1 1)).run Tryz.prog (w.alloc (.cells #[.int .u8 (48 + d)] 5)).drew = .ok (.string ⟨#[c]⟩) (w.alloc (.cells #[.int .u8 (48 + d)] 5)).drew := HCV.o w.drew; have H0 : Hid (Below w.heap.size w w.drew) := zz (Ft.below_dr (Below.refl _ _)); clear ih hk hc hsQ hq hd hln hb0 h hu; go_enter Tryz.func85, Tryz.ntmps85; go_wp2_with fail
   go_region_with (first
    | (go_at_call 85; refine (HI.o _).mono ?_; rintro e w1 ⟨rfl, hb⟩; have k1 := HCV.o w1; have HB1 : Hid (Below w.heap.size w w1) := zz (by refine below_and ?_ hb; (repeat (first | exact Below.refl _ _ | apply Ft.below_dr | (refine below_and ?_ (below_alloc _ _))))); (first | (have k2 : (convert 94 9 (.slice (some ⟨w.heap.size, 0, none⟩) 1 1)).run Tryz.prog w1 = .ok (.string ⟨#[c]⟩) w1 := HRD.o w.drew w1 hb) | skip); clear hb))
   all_goals go_wp2_with fail
   all_goals go_ret
   all_goals exact ⟨by rw [HD.o]; rfl, by first | exact HB1.o | exact below_and HB1.o (below_alloc _ _)⟩
end Go.Proofs.YtdemkfhkibmbnaaGreatDoor
namespace Go.Proofs.YtdemkfhkibmbnaaGreatDoor.Ru
def specM (m : Nat) (l : List UInt8) : Bool := decide (1 ≤ l.length) && decide (l.length ≤ m) && hd lo l && l.all nmc
def wrdB (l : List UInt8) : Bool := l.all wdc && decide (1 ≤ l.length) && decide (l.length ≤ 32)
def attrN (l : List UInt8) : Bool := specM 24 l && !(l == anyT)
theorem nameOk_of {l : List UInt8} (h : attrN l = true) : nameOk l := by
 unfold attrN specM at h
 simp only [Bool.and_eq_true, decide_eq_true_eq, List.all_eq_true, Bool.not_eq_true', beq_eq_false_iff_ne] at h; exact ⟨h.1.1.1.2, h.1.1.2, h.1.2, h.2⟩
theorem attrN_of {l : List UInt8} (h : nameOk l) : attrN l = true := by
 obtain ⟨h1, h2, h3, h4⟩ := h
 have h5 : 1 ≤ l.length := by
  cases l with
  | nil => cases h2
  | cons c l => simp
 unfold attrN specM
 simp only [Bool.and_eq_true, decide_eq_true_eq, List.all_eq_true, Bool.not_eq_true', beq_eq_false_iff_ne]; exact ⟨⟨⟨⟨h5, h1⟩, h2⟩, h3⟩, h4⟩
theorem wrdB_of {l : List UInt8} (h : wordOk l) : wrdB l = true := by
 obtain ⟨h1, h2, h3⟩ := h
 unfold wrdB
 simp only [Bool.and_eq_true, decide_eq_true_eq, List.all_eq_true]; refine ⟨⟨h3, ?_⟩, h2⟩
 cases l with
 | nil => exact absurd rfl h1
 | cons c l => simp
def leafyB (n : Nd) : Bool :=
 if n.k = 1 then decide (n.a = -1 ∧ n.b = -1) && decide (n.nm = []) && decide (n.vl = []) && decide (n.x = 0)
 else if n.k = 2 ∨ n.k = 3 then decide (n.a = -1 ∧ n.b = -1) && attrN n.nm && wrdB n.vl && decide (n.x = 0)
 else if n.k = 4 ∨ n.k = 5 then decide (n.a = -1 ∧ n.b = -1) && attrN n.nm && decide (n.vl = []) && decide (0 ≤ n.x) && decide (n.x ≤ 999999999999)
 else if n.k = 6 then decide (n.a = -1 ∧ n.b = -1) && attrN n.nm && decide (n.vl = []) && decide (n.x = 0)
 else if n.k = 7 then decide (n.nm = []) && decide (n.vl = []) && decide (n.x = 0) && decide (n.b = -1)
 else if n.k = 8 ∨ n.k = 9 then decide (n.nm = []) && decide (n.vl = []) && decide (n.x = 0)
 else false
def nodeC (i : Nat) (n : Nd) : Bool := leafyB n && decide (-1 ≤ n.a) && decide (n.a < i) && decide (-1 ≤ n.b) && decide (n.b < i) && !(decide (7 ≤ n.k) && decide (n.a < 0)) && !(decide (8 ≤ n.k) && decide (n.b < 0))
def sizF (L : List Nd) : Nat → Nat → Nat
 | 0, _ => 1
 | F + 1, i => match L[i]? with
  | none => 1
  | some n =>
   if 0 ≤ n.b ∧ 1 + (if 0 ≤ n.a then sizF L F n.a.toNat else 0) ≤ 64 then 1 + (if 0 ≤ n.a then sizF L F n.a.toNat else 0) + sizF L F n.b.toNat
   else 1 + (if 0 ≤ n.a then sizF L F n.a.toNat else 0)
def nodesC (L : List Nd) : Bool := (List.range L.length).all (fun i => match L[i]? with | some n => nodeC i n | none => true)
def siz (L : List Nd) (i : Nat) : Nat := sizF L (i + 1) i
def dcond (L : List Nd) : Bool := decide (1 ≤ L.length ∧ L.length ≤ 64) && nodesC L && decide (siz L (L.length - 1) = L.length)
def isOk (x : Except (Int × Int) (List Nd)) (L : List Nd) : Bool := match x with | .ok M => decide (M = L) | .error _ => false
def docChk (L : List Nd) : Int := if dcond L && isOk (parseP (tl L (L.length - 1))) L then 0 else 2
theorem nodesC_at {L : List Nd} (h : nodesC L = true) {i : Nat} {n : Nd} (hi : L[i]? = some n) : nodeC i n = true := by
 unfold nodesC at h
 have hlt : i < L.length := by
  rcases Nat.lt_or_ge i L.length with h' | h'
  ·exact h'
  ·rw [List.getElem?_eq_none h'] at hi; cases hi
 have := List.all_eq_true.1 h i (List.mem_range.2 hlt); rw [hi] at this; exact this
theorem nodeC_fine {i : Nat} {n : Nd} (h : nodeC i n = true) : ∀ p ∈ parts n, 0 ≤ p ∧ p < (i : Int) := by
 unfold nodeC at h
 simp only [Bool.and_eq_true, decide_eq_true_eq, Bool.not_eq_true', Bool.and_eq_false_iff, decide_eq_false_iff_not] at h; obtain ⟨⟨⟨⟨⟨⟨-, h1⟩, h2⟩, h3⟩, h4⟩, h5⟩, h6⟩ := h; intro p hp
 unfold parts at hp
 split at hp
 ·next h7 => simp only [List.mem_singleton] at hp; subst hp; omega
 ·split at hp
  ·next h8 => simp only [List.mem_cons, List.not_mem_nil, or_false] at hp; rcases hp with rfl | rfl <;> omega
  ·cases hp
theorem nodesC_fine {L : List Nd} (h : nodesC L = true) : Fine L := fun i n hi p hp => nodeC_fine (nodesC_at h hi) p hp
theorem leafy_lf {k x : Int} {nm vl : List UInt8} (h : leafOk k nm vl x) : leafyB ⟨k, nm, vl, x, -1, -1⟩ = true := by
 unfold leafyB
 rcases h with ⟨rfl, rfl, rfl, rfl⟩ | ⟨hk, h1, h2, rfl⟩ | ⟨hk, h1, rfl, h2, h3⟩ | ⟨rfl, h1, rfl, rfl⟩
 ·rfl
 ·rw [if_neg (by simp only; omega), if_pos hk]
  simp only [attrN_of h1, wrdB_of h2]; rfl
 ·rw [if_neg (by simp only; omega), if_neg (by simp only; omega), if_pos hk]
  simp only [attrN_of h1, decide_eq_true h2, decide_eq_true h3]; rfl
 ·rw [if_neg (by simp only; omega), if_neg (by simp only; omega), if_neg (by simp only; omega), if_pos rfl]
  simp only [attrN_of h1]; rfl
theorem nodeC_flat : ∀ (t : Tr) (b i : Nat) (n : Nd), t.ok → (t.flat b)[i]? = some n → nodeC (b + i) n = true := by
 intro t
 induction t with
 | lf k nm vl x =>
  intro b i n ho h; have hk := leaf_kind ho
  have hn : n = ⟨k, nm, vl, x, -1, -1⟩ := by
   cases i with
   | zero => exact (Option.some.inj h).symm
   | succ i => simp [Tr.flat] at h
  subst hn
  unfold nodeC
  rw [leafy_lf ho]; simp only [Bool.true_and, Bool.and_eq_true, decide_eq_true_eq, Bool.not_eq_true', Bool.and_eq_false_iff, decide_eq_false_iff_not]
  omega
 | no t ih =>
  intro b i n ho h; have hp := t.size_pos; have h' : (t.flat b ++ [(⟨7, [], [], 0, (b : Int) + t.size - 1, -1⟩ : Nd)])[i]? = some n := h
  by_cases hi : i < t.size
  ·rw [List.getElem?_append_left (by rw [t.flat_len]; exact hi)] at h'
   exact ih b i n ho h'
  ·rw [List.getElem?_append_right (by rw [t.flat_len]; omega), t.flat_len] at h'
   have e : i - t.size = 0 := by
    rcases Nat.eq_zero_or_pos (i - t.size) with e | e
    ·exact e
    ·rw [List.getElem?_eq_none (by simp only [List.length_cons, List.length_nil]; omega)] at h'; cases h'
   rw [e] at h'; simp only [List.getElem?_cons_zero, Option.some.injEq] at h'; subst h'
   unfold nodeC
   rw [show leafyB ⟨7, [], [], 0, (b : Int) + t.size - 1, -1⟩ = true from rfl]; simp only [Bool.true_and, Bool.and_eq_true, decide_eq_true_eq, Bool.not_eq_true', Bool.and_eq_false_iff, decide_eq_false_iff_not]
   omega
 | an l r ihl ihr =>
  intro b i n ho h; have hp1 := l.size_pos; have hp2 := r.size_pos; have h' : (l.flat b ++ r.flat (b + l.size) ++ [(⟨8, [], [], 0, (b : Int) + l.size - 1, (b : Int) + l.size + r.size - 1⟩ : Nd)])[i]? = some n := h
  by_cases hi : i < l.size
  ·rw [List.append_assoc, List.getElem?_append_left (by rw [l.flat_len]; exact hi)] at h'
   exact ihl b i n ho.1 h'
  by_cases hj : i < l.size + r.size
  ·rw [List.append_assoc, List.getElem?_append_right (by rw [l.flat_len]; omega), List.getElem?_append_left (by rw [l.flat_len, r.flat_len]; omega), l.flat_len] at h'
   have := ihr (b + l.size) (i - l.size) n ho.2 h'; rw [show b + l.size + (i - l.size) = b + i by omega] at this; exact this
  ·rw [List.append_assoc, List.getElem?_append_right (by rw [l.flat_len]; omega), List.getElem?_append_right (by rw [l.flat_len, r.flat_len]; omega), l.flat_len, r.flat_len] at h'
   have e : i - l.size - r.size = 0 := by
    rcases Nat.eq_zero_or_pos (i - l.size - r.size) with e | e
    ·exact e
    ·rw [List.getElem?_eq_none (by simp only [List.length_cons, List.length_nil]; omega)] at h'; cases h'
   rw [e] at h'; simp only [List.getElem?_cons_zero, Option.some.injEq] at h'; subst h'
   unfold nodeC
   rw [show leafyB ⟨8, [], [], 0, (b : Int) + l.size - 1, (b : Int) + l.size + r.size - 1⟩ = true from rfl]; simp only [Bool.true_and, Bool.and_eq_true, decide_eq_true_eq, Bool.not_eq_true', Bool.and_eq_false_iff, decide_eq_false_iff_not]
   omega
 | o l r ihl ihr =>
  intro b i n ho h; have hp1 := l.size_pos; have hp2 := r.size_pos; have h' : (l.flat b ++ r.flat (b + l.size) ++ [(⟨9, [], [], 0, (b : Int) + l.size - 1, (b : Int) + l.size + r.size - 1⟩ : Nd)])[i]? = some n := h
  by_cases hi : i < l.size
  ·rw [List.append_assoc, List.getElem?_append_left (by rw [l.flat_len]; exact hi)] at h'
   exact ihl b i n ho.1 h'
  by_cases hj : i < l.size + r.size
  ·rw [List.append_assoc, List.getElem?_append_right (by rw [l.flat_len]; omega), List.getElem?_append_left (by rw [l.flat_len, r.flat_len]; omega), l.flat_len] at h'
   have := ihr (b + l.size) (i - l.size) n ho.2 h'; rw [show b + l.size + (i - l.size) = b + i by omega] at this; exact this
  ·rw [List.append_assoc, List.getElem?_append_right (by rw [l.flat_len]; omega), List.getElem?_append_right (by rw [l.flat_len, r.flat_len]; omega), l.flat_len, r.flat_len] at h'
   have e : i - l.size - r.size = 0 := by
    rcases Nat.eq_zero_or_pos (i - l.size - r.size) with e | e
    ·exact e
    ·rw [List.getElem?_eq_none (by simp only [List.length_cons, List.length_nil]; omega)] at h'; cases h'
   rw [e] at h'; simp only [List.getElem?_cons_zero, Option.some.injEq] at h'; subst h'
   unfold nodeC
   rw [show leafyB ⟨9, [], [], 0, (b : Int) + l.size - 1, (b : Int) + l.size + r.size - 1⟩ = true from rfl]; simp only [Bool.true_and, Bool.and_eq_true, decide_eq_true_eq, Bool.not_eq_true', Bool.and_eq_false_iff, decide_eq_false_iff_not]
   omega
theorem siz_flat : ∀ (t : Tr) (X Y : List Nd) (F : Nat), t.ok → t.size ≤ F → t.size ≤ 64 → sizF (X ++ t.flat X.length ++ Y) F (X.length + t.size - 1) = t.size := by
 intro t
 induction t with
 | lf k nm vl x =>
  intro X Y F ho hF _; have hs : (Tr.lf k nm vl x).size = 1 := rfl; obtain ⟨G, rfl⟩ : ∃ G, F = G + 1 := ⟨F - 1, by omega⟩
  unfold sizF
  rw [at_root]
  rfl
 | no t ih =>
  intro X Y F ho hF h64; have hsz : (Tr.no t).size = t.size + 1 := rfl; have hp := t.size_pos; obtain ⟨G, rfl⟩ : ∃ G, F = G + 1 := ⟨F - 1, by omega⟩
  unfold sizF
  rw [at_root]
  have hL : X ++ (Tr.no t).flat X.length ++ Y = X ++ t.flat X.length ++ ((Tr.no t).root X.length :: Y) := by
   show X ++ (t.flat X.length ++ [_]) ++ Y = _
   simp only [List.append_assoc, List.singleton_append]
   rfl
  have hi : ((Tr.no t).root X.length).a.toNat = X.length + t.size - 1 := by
   show ((X.length : Int) + t.size - 1).toNat = _
   omega
  have ha : 0 ≤ ((Tr.no t).root X.length).a := by show 0 ≤ (X.length : Int) + t.size - 1; omega
  have hb : ¬ (0 ≤ ((Tr.no t).root X.length).b) := by show ¬ (0 : Int) ≤ -1; omega
  simp only [if_pos ha, hi, hL, ih X _ G ho (by omega) (by omega)]; rw [if_neg (fun h => hb h.1)]
  omega
 | an l r ihl ihr =>
  intro X Y F ho hF h64; have hsz : (Tr.an l r).size = l.size + r.size + 1 := rfl; have hp1 := l.size_pos; have hp2 := r.size_pos; obtain ⟨G, rfl⟩ : ∃ G, F = G + 1 := ⟨F - 1, by omega⟩
  unfold sizF
  rw [at_root]
  have hL1 : X ++ (Tr.an l r).flat X.length ++ Y = X ++ l.flat X.length ++ (r.flat (X.length + l.size) ++ (Tr.an l r).root X.length :: Y) := by
   show X ++ (l.flat X.length ++ r.flat (X.length + l.size) ++ [_]) ++ Y = _
   simp only [List.append_assoc, List.singleton_append]
   rfl
  have hXl : (X ++ l.flat X.length).length = X.length + l.size := by rw [List.length_append, l.flat_len]
  have hL2 : X ++ (Tr.an l r).flat X.length ++ Y = (X ++ l.flat X.length) ++ r.flat (X ++ l.flat X.length).length ++ ((Tr.an l r).root X.length :: Y) := by
   rw [hL1, hXl]; simp only [List.append_assoc]
  have h1 : ((Tr.an l r).root X.length).a.toNat = X.length + l.size - 1 := by
   show ((X.length : Int) + l.size - 1).toNat = _
   omega
  have h2 : ((Tr.an l r).root X.length).b.toNat = (X ++ l.flat X.length).length + r.size - 1 := by
   show ((X.length : Int) + l.size + r.size - 1).toNat = _
   omega
  have a1 : sizF (X ++ (Tr.an l r).flat X.length ++ Y) G ((Tr.an l r).root X.length).a.toNat = l.size := by rw [h1, hL1]; exact ihl X _ G ho.1 (by omega) (by omega)
  have a2 : sizF (X ++ (Tr.an l r).flat X.length ++ Y) G ((Tr.an l r).root X.length).b.toNat = r.size := by rw [h2, hL2]; exact ihr _ _ G ho.2 (by omega) (by omega)
  have ha : 0 ≤ ((Tr.an l r).root X.length).a := by show 0 ≤ (X.length : Int) + l.size - 1; omega
  have hb : 0 ≤ ((Tr.an l r).root X.length).b := by show 0 ≤ (X.length : Int) + l.size + r.size - 1; omega
  simp only [if_pos ha, a1, a2]; rw [if_pos ⟨hb, by omega⟩]
  omega
 | o l r ihl ihr =>
  intro X Y F ho hF h64; have hsz : (Tr.o l r).size = l.size + r.size + 1 := rfl; have hp1 := l.size_pos; have hp2 := r.size_pos; obtain ⟨G, rfl⟩ : ∃ G, F = G + 1 := ⟨F - 1, by omega⟩
  unfold sizF
  rw [at_root]
  have hL1 : X ++ (Tr.o l r).flat X.length ++ Y = X ++ l.flat X.length ++ (r.flat (X.length + l.size) ++ (Tr.o l r).root X.length :: Y) := by
   show X ++ (l.flat X.length ++ r.flat (X.length + l.size) ++ [_]) ++ Y = _
   simp only [List.append_assoc, List.singleton_append]
   rfl
  have hXl : (X ++ l.flat X.length).length = X.length + l.size := by rw [List.length_append, l.flat_len]
  have hL2 : X ++ (Tr.o l r).flat X.length ++ Y = (X ++ l.flat X.length) ++ r.flat (X ++ l.flat X.length).length ++ ((Tr.o l r).root X.length :: Y) := by
   rw [hL1, hXl]; simp only [List.append_assoc]
  have h1 : ((Tr.o l r).root X.length).a.toNat = X.length + l.size - 1 := by
   show ((X.length : Int) + l.size - 1).toNat = _
   omega
  have h2 : ((Tr.o l r).root X.length).b.toNat = (X ++ l.flat X.length).length + r.size - 1 := by
   show ((X.length : Int) + l.size + r.size - 1).toNat = _
   omega
  have a1 : sizF (X ++ (Tr.o l r).flat X.length ++ Y) G ((Tr.o l r).root X.length).a.toNat = l.size := by rw [h1, hL1]; exact ihl X _ G ho.1 (by omega) (by omega)
  have a2 : sizF (X ++ (Tr.o l r).flat X.length ++ Y) G ((Tr.o l r).root X.length).b.toNat = r.size := by rw [h2, hL2]; exact ihr _ _ G ho.2 (by omega) (by omega)
  have ha : 0 ≤ ((Tr.o l r).root X.length).a := by show 0 ≤ (X.length : Int) + l.size - 1; omega
  have hb : 0 ≤ ((Tr.o l r).root X.length).b := by show 0 ≤ (X.length : Int) + l.size + r.size - 1; omega
  simp only [if_pos ha, a1, a2]; rw [if_pos ⟨hb, by omega⟩]
  omega
theorem dcond_flat {t : Tr} (ho : t.ok) (hs : t.size ≤ 64) : dcond (t.flat 0) = true := by
 have hl := t.flat_len 0; have hp := t.size_pos
 unfold dcond
 simp only [Bool.and_eq_true, decide_eq_true_eq]; refine ⟨⟨by omega, ?_⟩, ?_⟩
 ·unfold nodesC
  rw [List.all_eq_true]; intro i hi; have hlt := List.mem_range.1 hi; rw [List.getElem?_eq_getElem hlt]; have := nodeC_flat t 0 i _ ho (List.getElem?_eq_getElem hlt)
  rwa [Nat.zero_add] at this
 ·have := siz_flat t [] [] t.size ho (Nat.le_refl _) hs
  simp only [List.nil_append, List.append_nil, List.length_nil, Nat.zero_add] at this
  unfold siz
  rw [hl, show t.size - 1 + 1 = t.size by omega]; exact this
theorem docChk_eq (L : List Nd) : docChk L = checkP L := by
 unfold docChk
 by_cases hp : parseP (toldA L) = .ok L
 ·obtain ⟨t, ho, hd, hs, hL, hlen⟩ := parseP_tree hp
  have hdc : dcond L = true := by rw [hL]; exact dcond_flat ho hs
  have hc := (check_parse hp).2.1
  have hf : Fine L := by
   unfold dcond at hdc
   simp only [Bool.and_eq_true] at hdc; exact nodesC_fine hdc.1.2
  have h1 : 1 ≤ L.length := by
   unfold dcond at hdc
   simp only [Bool.and_eq_true, decide_eq_true_eq] at hdc; exact hdc.1.1.1
  rw [← toldA_tl hf h1, hp, hdc, hc]
  unfold isOk
  simp
 ·have h2 : checkP L = 2 := by
   unfold checkP
   split
   ·split
    ·next M hM =>
     rw [if_neg]
     rintro rfl
     exact hp hM
    ·rfl
   ·rfl
  rw [h2]; cases hdc : dcond L
  ·rfl
  ·have hdc' := hdc
   unfold dcond at hdc'
   simp only [Bool.and_eq_true, decide_eq_true_eq] at hdc'; rw [← toldA_tl (nodesC_fine hdc'.1.2) hdc'.1.1.1]
   have : isOk (parseP (toldA L)) L = false := by
    unfold isOk
    split
    ·next M hM =>
     rw [decide_eq_false_iff_not]
     rintro rfl
     exact hp hM
    ·rfl
   rw [this]
   rfl
end Go.Proofs.YtdemkfhkibmbnaaGreatDoor.Ru
namespace Go.Proofs.YtdemkfhkibmbnaaGreatDoor.Ru
open Go.RowKit Go.Proofs.YtdemkfhkibmbnaaGreatDoor
theorem all_not {l : List UInt8} {p : UInt8 → Bool} {k : Nat} (hk : k < l.length) (h : p l[k] = false) : l.all p = false := by
 rw [← Bool.not_eq_true, List.all_eq_true]; intro hh; have := hh _ (List.getElem_mem hk); rw [h] at this; cases this
theorem dname_any (m : Nat) (s : ByteArray) (w : World) (hm : m ≤ 1000) (hs : s.size ≤ 140737488351232) : Calls Tryz.prog 58 #[.string s, .int .i64 (m : Int)] w fun e w' => e = .returned (.bool (specM m s.data.toList)) ∧ w = w' := by
 obtain ⟨l, hl⟩ : ∃ l, l = s.data.toList := ⟨_, rfl⟩; have hsz : s.size = l.length := by rw [hl]; simp
 have HG : Hid (∀ k (h1 : k < s.size) (h2 : k < l.length), s[k] = l[k]) := zz (fun k h1 h2 => by subst hl; rfl); rw [← hl]
 by_cases h0 : s.size < 1
 ·have HR : Hid (specM m l = false) := zz (by unfold specM; rw [decide_eq_false (by omega)]; rfl)
  have e0 : decide ((s.size : Int) < 1) = true := by simp; omega
  clear hl hsz HG; go_enter Tryz.func58, Tryz.ntmps58; go_wp2; go_ret; exact ⟨ret_bool HR.o.symm, rfl⟩
 have e0 : decide ((s.size : Int) < 1) = false := by simp; omega
 by_cases h1 : m < s.size
 ·have HR : Hid (specM m l = false) := zz (by unfold specM; rw [decide_eq_false (p := l.length ≤ m) (by omega)]; simp)
  have e1 : decide ((m : Int) < (s.size : Int)) = true := by simp; omega
  have e1' : decide (m < s.size) = true := by simp; omega
  clear hl hsz HG; go_enter Tryz.func58, Tryz.ntmps58; go_wp2; go_ret; exact ⟨ret_bool HR.o.symm, rfl⟩
 have e1 : decide ((m : Int) < (s.size : Int)) = false := by simp; omega
 have e1' : decide (m < s.size) = false := by simp; omega
 have i0 : 0 < s.size := by omega
 have i5 : (0 : Int) < (s.size : Int) := by omega
 obtain ⟨c0, hc0⟩ : ∃ c0, c0 = s[0] := ⟨_, rfl⟩
 have HC0 : Hid (hd lo l = lo c0) := zz (by
  rw [hc0, HG.o 0 i0 (by omega)]
  cases l with
  | nil => (have g9 : ([] : List UInt8).length = 0 := rfl; omega)
  | cons c r => rfl)
 have hcc : s[0] = c0 := hc0.symm; have cb0 := c0.toNat_lt; clear hc0
 by_cases h2 : c0.toNat < 97
 ·have HR : Hid (specM m l = false) := zz (by unfold specM; rw [HC0.o, show lo c0 = false from by unfold lo; simp; omega]; simp)
  have e2 : decide ((c0.toNat : Int) < 97) = true := by simp; omega
  clear hl hsz HG; go_enter Tryz.func58, Tryz.ntmps58; go_wp2; go_ret; exact ⟨ret_bool HR.o.symm, rfl⟩
 have e2 : decide ((c0.toNat : Int) < 97) = false := by simp; omega
 by_cases h3 : 122 < c0.toNat
 ·have HR : Hid (specM m l = false) := zz (by unfold specM; rw [HC0.o, show lo c0 = false from by unfold lo; simp; omega]; simp)
  have e3 : decide ((122 : Int) < (c0.toNat : Int)) = true := by simp; omega
  clear hl hsz HG; go_enter Tryz.func58, Tryz.ntmps58; go_wp2; go_ret; exact ⟨ret_bool HR.o.symm, rfl⟩
 have e3 : decide ((122 : Int) < (c0.toNat : Int)) = false := by simp; omega
 have HH : Hid (specM m l = l.all nmc) := zz (by unfold specM; rw [HC0.o, show lo c0 = true from by unfold lo; simp; omega, decide_eq_true (by omega), decide_eq_true (p := l.length ≤ m) (by omega)]; rfl); have HSZ := zz hsz; have hl1 : l.length ≤ 1000 := by omega
 clear h2 h3 hl hsz h0 h1; go_enter Tryz.func58, Tryz.ntmps58; go_upto_region 4 with fail
 go_loopw [5] (fun i wr => wr = w ∧ ∃ k : Nat, k ≤ l.length ∧ i = .int .i64 (k : Int) ∧ Hid ((l.take k).all nmc = true)) (fun i _ => l.length - (intOf i).toNat)
 case atStart => exact ⟨rfl, 0, Nat.zero_le _, rfl, by simp [Hid]⟩
 case round =>
  obtain ⟨rfl, k, hk, rfl, HD⟩ := hrel
  by_cases hlt : k < l.length
  rotate_left
  ·obtain rfl : k = l.length := by omega
   have i1 : ¬ ((l.length : Int) < (s.size : Int)) := by have := HSZ.o; omega
   have HR : Hid (specM m l = true) := zz (by rw [HH.o]; have := HD.o; rwa [List.take_length] at this); go_wp2; go_ret; exact ⟨ret_bool HR.o.symm, rfl⟩
  have i1 : (k : Int) < (s.size : Int) := by have := HSZ.o; omega
  have i2 : k < s.size := by have := HSZ.o; omega
  have i3 : (0 : Int) ≤ (k : Int) := by omega
  obtain ⟨c, hc⟩ : ∃ c, c = s[k] := ⟨_, rfl⟩; have HCC : Hid (c = l[k]) := zz (by rw [hc]; exact HG.o k i2 hlt); have hck : s[k] = c := hc.symm; have cb := c.toNat_lt; clear hc
  by_cases g1 : c.toNat = 45
  ·have d1 : decide ((97 : Int) ≤ (c.toNat : Int)) = false := by simp; omega
   have d2 : decide ((c.toNat : Int) ≤ 122) = true := by simp; omega
   have d3 : decide ((48 : Int) ≤ (c.toNat : Int)) = false := by simp; omega
   have d4 : decide ((c.toNat : Int) ≤ 57) = true := by simp; omega
   have d5 : ((c.toNat : Int) == 45) = true := by simp; omega
   have HN : Hid (nmc c = true) := zz (by unfold nmc lo dgt; simp; omega); clear g1; go_wp2; go_roundw
   case rel => exact ⟨(by first | rfl | trivial), k + 1, hlt, by go_num, zz (by rw [List.take_succ_eq_append_getElem hlt, List.all_append, HD.o, ← HCC.o]; simp [HN.o])⟩
   case measure => simp [intOf]; omega
  by_cases g2 : c.toNat < 48
  ·have d1 : decide ((97 : Int) ≤ (c.toNat : Int)) = false := by simp; omega
   have d2 : decide ((c.toNat : Int) ≤ 122) = true := by simp; omega
   have d3 : decide ((48 : Int) ≤ (c.toNat : Int)) = false := by simp; omega
   have d4 : decide ((c.toNat : Int) ≤ 57) = true := by simp; omega
   have d5 : ((c.toNat : Int) == 45) = false := by simp; omega
   have HR : Hid (specM m l = false) := zz (by rw [HH.o]; exact all_not hlt (by rw [← HCC.o]; unfold nmc lo dgt; simp; omega)); clear g1 g2; go_wp2; go_ret; exact ⟨ret_bool HR.o.symm, rfl⟩
  by_cases g3 : c.toNat ≤ 57
  ·have d1 : decide ((97 : Int) ≤ (c.toNat : Int)) = false := by simp; omega
   have d2 : decide ((c.toNat : Int) ≤ 122) = true := by simp; omega
   have d3 : decide ((48 : Int) ≤ (c.toNat : Int)) = true := by simp; omega
   have d4 : decide ((c.toNat : Int) ≤ 57) = true := by simp; omega
   have d5 : ((c.toNat : Int) == 45) = false := by simp; omega
   have HN : Hid (nmc c = true) := zz (by unfold nmc lo dgt; simp; omega); clear g1 g2 g3; go_wp2; go_roundw
   case rel => exact ⟨(by first | rfl | trivial), k + 1, hlt, by go_num, zz (by rw [List.take_succ_eq_append_getElem hlt, List.all_append, HD.o, ← HCC.o]; simp [HN.o])⟩
   case measure => simp [intOf]; omega
  by_cases g4 : c.toNat < 97
  ·have d1 : decide ((97 : Int) ≤ (c.toNat : Int)) = false := by simp; omega
   have d2 : decide ((c.toNat : Int) ≤ 122) = true := by simp; omega
   have d3 : decide ((48 : Int) ≤ (c.toNat : Int)) = true := by simp; omega
   have d4 : decide ((c.toNat : Int) ≤ 57) = false := by simp; omega
   have d5 : ((c.toNat : Int) == 45) = false := by simp; omega
   have HR : Hid (specM m l = false) := zz (by rw [HH.o]; exact all_not hlt (by rw [← HCC.o]; unfold nmc lo dgt; simp; omega)); clear g1 g2 g3 g4; go_wp2; go_ret; exact ⟨ret_bool HR.o.symm, rfl⟩
  by_cases g5 : c.toNat ≤ 122
  ·have d1 : decide ((97 : Int) ≤ (c.toNat : Int)) = true := by simp; omega
   have d2 : decide ((c.toNat : Int) ≤ 122) = true := by simp; omega
   have d3 : decide ((48 : Int) ≤ (c.toNat : Int)) = true := by simp; omega
   have d4 : decide ((c.toNat : Int) ≤ 57) = false := by simp; omega
   have d5 : ((c.toNat : Int) == 45) = false := by simp; omega
   have HN : Hid (nmc c = true) := zz (by unfold nmc lo dgt; simp; omega); clear g1 g2 g3 g4 g5; go_wp2; go_roundw
   case rel => exact ⟨(by first | rfl | trivial), k + 1, hlt, by go_num, zz (by rw [List.take_succ_eq_append_getElem hlt, List.all_append, HD.o, ← HCC.o]; simp [HN.o])⟩
   case measure => simp [intOf]; omega
  ·have d1 : decide ((97 : Int) ≤ (c.toNat : Int)) = true := by simp; omega
   have d2 : decide ((c.toNat : Int) ≤ 122) = false := by simp; omega
   have d3 : decide ((48 : Int) ≤ (c.toNat : Int)) = true := by simp; omega
   have d4 : decide ((c.toNat : Int) ≤ 57) = false := by simp; omega
   have d5 : ((c.toNat : Int) == 45) = false := by simp; omega
   have HR : Hid (specM m l = false) := zz (by rw [HH.o]; exact all_not hlt (by rw [← HCC.o]; unfold nmc lo dgt; simp; omega)); clear g1 g2 g3 g4 g5; go_wp2; go_ret; exact ⟨ret_bool HR.o.symm, rfl⟩
theorem wordByte_any (c : UInt8) (w : World) : Calls Tryz.prog 84 #[.int .u8 (c.toNat : Int)] w fun e w' => e = .returned (.bool (wdc c)) ∧ w = w' := by
 have cb := c.toNat_lt
 by_cases g0 : c.toNat < 45
 ·have d1 : decide ((97 : Int) ≤ (c.toNat : Int)) = false := by simp; omega
  have d2 : decide ((c.toNat : Int) ≤ 122) = true := by simp; omega
  have d3 : decide ((65 : Int) ≤ (c.toNat : Int)) = false := by simp; omega
  have d4 : decide ((c.toNat : Int) ≤ 90) = true := by simp; omega
  have d5 : decide ((48 : Int) ≤ (c.toNat : Int)) = false := by simp; omega
  have d6 : decide ((c.toNat : Int) ≤ 57) = true := by simp; omega
  have d7 : ((c.toNat : Int) == 45) = false := by simp; omega
  have d8 : ((c.toNat : Int) == 95) = false := by simp; omega
  have d9 : ((c.toNat : Int) == 46) = false := by simp; omega
  have HR : Hid (wdc c = false) := zz (by unfold wdc lo up dgt; simp; omega); clear cb g0; go_enter Tryz.func84, Tryz.ntmps84; go_wp2; go_ret; exact ⟨ret_bool HR.o.symm, rfl⟩
 by_cases g1 : c.toNat = 45
 ·have d1 : decide ((97 : Int) ≤ (c.toNat : Int)) = false := by simp; omega
  have d2 : decide ((c.toNat : Int) ≤ 122) = true := by simp; omega
  have d3 : decide ((65 : Int) ≤ (c.toNat : Int)) = false := by simp; omega
  have d4 : decide ((c.toNat : Int) ≤ 90) = true := by simp; omega
  have d5 : decide ((48 : Int) ≤ (c.toNat : Int)) = false := by simp; omega
  have d6 : decide ((c.toNat : Int) ≤ 57) = true := by simp; omega
  have d7 : ((c.toNat : Int) == 45) = true := by simp; omega
  have d8 : ((c.toNat : Int) == 95) = false := by simp; omega
  have d9 : ((c.toNat : Int) == 46) = false := by simp; omega
  have HR : Hid (wdc c = true) := zz (by unfold wdc lo up dgt; simp; omega); clear cb g0 g1; go_enter Tryz.func84, Tryz.ntmps84; go_wp2; go_ret; exact ⟨ret_bool HR.o.symm, rfl⟩
 by_cases g2 : c.toNat = 46
 ·have d1 : decide ((97 : Int) ≤ (c.toNat : Int)) = false := by simp; omega
  have d2 : decide ((c.toNat : Int) ≤ 122) = true := by simp; omega
  have d3 : decide ((65 : Int) ≤ (c.toNat : Int)) = false := by simp; omega
  have d4 : decide ((c.toNat : Int) ≤ 90) = true := by simp; omega
  have d5 : decide ((48 : Int) ≤ (c.toNat : Int)) = false := by simp; omega
  have d6 : decide ((c.toNat : Int) ≤ 57) = true := by simp; omega
  have d7 : ((c.toNat : Int) == 45) = false := by simp; omega
  have d8 : ((c.toNat : Int) == 95) = false := by simp; omega
  have d9 : ((c.toNat : Int) == 46) = true := by simp; omega
  have HR : Hid (wdc c = true) := zz (by unfold wdc lo up dgt; simp; omega); clear cb g0 g1 g2; go_enter Tryz.func84, Tryz.ntmps84; go_wp2; go_ret; exact ⟨ret_bool HR.o.symm, rfl⟩
 by_cases g3 : c.toNat < 48
 ·have d1 : decide ((97 : Int) ≤ (c.toNat : Int)) = false := by simp; omega
  have d2 : decide ((c.toNat : Int) ≤ 122) = true := by simp; omega
  have d3 : decide ((65 : Int) ≤ (c.toNat : Int)) = false := by simp; omega
  have d4 : decide ((c.toNat : Int) ≤ 90) = true := by simp; omega
  have d5 : decide ((48 : Int) ≤ (c.toNat : Int)) = false := by simp; omega
  have d6 : decide ((c.toNat : Int) ≤ 57) = true := by simp; omega
  have d7 : ((c.toNat : Int) == 45) = false := by simp; omega
  have d8 : ((c.toNat : Int) == 95) = false := by simp; omega
  have d9 : ((c.toNat : Int) == 46) = false := by simp; omega
  have HR : Hid (wdc c = false) := zz (by unfold wdc lo up dgt; simp; omega); clear cb g0 g1 g2 g3; go_enter Tryz.func84, Tryz.ntmps84; go_wp2; go_ret; exact ⟨ret_bool HR.o.symm, rfl⟩
 by_cases g4 : c.toNat ≤ 57
 ·have d1 : decide ((97 : Int) ≤ (c.toNat : Int)) = false := by simp; omega
  have d2 : decide ((c.toNat : Int) ≤ 122) = true := by simp; omega
  have d3 : decide ((65 : Int) ≤ (c.toNat : Int)) = false := by simp; omega
  have d4 : decide ((c.toNat : Int) ≤ 90) = true := by simp; omega
  have d5 : decide ((48 : Int) ≤ (c.toNat : Int)) = true := by simp; omega
  have d6 : decide ((c.toNat : Int) ≤ 57) = true := by simp; omega
  have d7 : ((c.toNat : Int) == 45) = false := by simp; omega
  have d8 : ((c.toNat : Int) == 95) = false := by simp; omega
  have d9 : ((c.toNat : Int) == 46) = false := by simp; omega
  have HR : Hid (wdc c = true) := zz (by unfold wdc lo up dgt; simp; omega); clear cb g0 g1 g2 g3 g4; go_enter Tryz.func84, Tryz.ntmps84; go_wp2; go_ret; exact ⟨ret_bool HR.o.symm, rfl⟩
 by_cases g5 : c.toNat < 65
 ·have d1 : decide ((97 : Int) ≤ (c.toNat : Int)) = false := by simp; omega
  have d2 : decide ((c.toNat : Int) ≤ 122) = true := by simp; omega
  have d3 : decide ((65 : Int) ≤ (c.toNat : Int)) = false := by simp; omega
  have d4 : decide ((c.toNat : Int) ≤ 90) = true := by simp; omega
  have d5 : decide ((48 : Int) ≤ (c.toNat : Int)) = true := by simp; omega
  have d6 : decide ((c.toNat : Int) ≤ 57) = false := by simp; omega
  have d7 : ((c.toNat : Int) == 45) = false := by simp; omega
  have d8 : ((c.toNat : Int) == 95) = false := by simp; omega
  have d9 : ((c.toNat : Int) == 46) = false := by simp; omega
  have HR : Hid (wdc c = false) := zz (by unfold wdc lo up dgt; simp; omega); clear cb g0 g1 g2 g3 g4 g5; go_enter Tryz.func84, Tryz.ntmps84; go_wp2; go_ret; exact ⟨ret_bool HR.o.symm, rfl⟩
 by_cases g6 : c.toNat ≤ 90
 ·have d1 : decide ((97 : Int) ≤ (c.toNat : Int)) = false := by simp; omega
  have d2 : decide ((c.toNat : Int) ≤ 122) = true := by simp; omega
  have d3 : decide ((65 : Int) ≤ (c.toNat : Int)) = true := by simp; omega
  have d4 : decide ((c.toNat : Int) ≤ 90) = true := by simp; omega
  have d5 : decide ((48 : Int) ≤ (c.toNat : Int)) = true := by simp; omega
  have d6 : decide ((c.toNat : Int) ≤ 57) = false := by simp; omega
  have d7 : ((c.toNat : Int) == 45) = false := by simp; omega
  have d8 : ((c.toNat : Int) == 95) = false := by simp; omega
  have d9 : ((c.toNat : Int) == 46) = false := by simp; omega
  have HR : Hid (wdc c = true) := zz (by unfold wdc lo up dgt; simp; omega); clear cb g0 g1 g2 g3 g4 g5 g6; go_enter Tryz.func84, Tryz.ntmps84; go_wp2; go_ret; exact ⟨ret_bool HR.o.symm, rfl⟩
 by_cases g7 : c.toNat < 95
 ·have d1 : decide ((97 : Int) ≤ (c.toNat : Int)) = false := by simp; omega
  have d2 : decide ((c.toNat : Int) ≤ 122) = true := by simp; omega
  have d3 : decide ((65 : Int) ≤ (c.toNat : Int)) = true := by simp; omega
  have d4 : decide ((c.toNat : Int) ≤ 90) = false := by simp; omega
  have d5 : decide ((48 : Int) ≤ (c.toNat : Int)) = true := by simp; omega
  have d6 : decide ((c.toNat : Int) ≤ 57) = false := by simp; omega
  have d7 : ((c.toNat : Int) == 45) = false := by simp; omega
  have d8 : ((c.toNat : Int) == 95) = false := by simp; omega
  have d9 : ((c.toNat : Int) == 46) = false := by simp; omega
  have HR : Hid (wdc c = false) := zz (by unfold wdc lo up dgt; simp; omega); clear cb g0 g1 g2 g3 g4 g5 g6 g7; go_enter Tryz.func84, Tryz.ntmps84; go_wp2; go_ret; exact ⟨ret_bool HR.o.symm, rfl⟩
 by_cases g8 : c.toNat = 95
 ·have d1 : decide ((97 : Int) ≤ (c.toNat : Int)) = false := by simp; omega
  have d2 : decide ((c.toNat : Int) ≤ 122) = true := by simp; omega
  have d3 : decide ((65 : Int) ≤ (c.toNat : Int)) = true := by simp; omega
  have d4 : decide ((c.toNat : Int) ≤ 90) = false := by simp; omega
  have d5 : decide ((48 : Int) ≤ (c.toNat : Int)) = true := by simp; omega
  have d6 : decide ((c.toNat : Int) ≤ 57) = false := by simp; omega
  have d7 : ((c.toNat : Int) == 45) = false := by simp; omega
  have d8 : ((c.toNat : Int) == 95) = true := by simp; omega
  have d9 : ((c.toNat : Int) == 46) = false := by simp; omega
  have HR : Hid (wdc c = true) := zz (by unfold wdc lo up dgt; simp; omega); clear cb g0 g1 g2 g3 g4 g5 g6 g7 g8; go_enter Tryz.func84, Tryz.ntmps84; go_wp2; go_ret; exact ⟨ret_bool HR.o.symm, rfl⟩
 by_cases g9 : c.toNat < 97
 ·have d1 : decide ((97 : Int) ≤ (c.toNat : Int)) = false := by simp; omega
  have d2 : decide ((c.toNat : Int) ≤ 122) = true := by simp; omega
  have d3 : decide ((65 : Int) ≤ (c.toNat : Int)) = true := by simp; omega
  have d4 : decide ((c.toNat : Int) ≤ 90) = false := by simp; omega
  have d5 : decide ((48 : Int) ≤ (c.toNat : Int)) = true := by simp; omega
  have d6 : decide ((c.toNat : Int) ≤ 57) = false := by simp; omega
  have d7 : ((c.toNat : Int) == 45) = false := by simp; omega
  have d8 : ((c.toNat : Int) == 95) = false := by simp; omega
  have d9 : ((c.toNat : Int) == 46) = false := by simp; omega
  have HR : Hid (wdc c = false) := zz (by unfold wdc lo up dgt; simp; omega); clear cb g0 g1 g2 g3 g4 g5 g6 g7 g8 g9; go_enter Tryz.func84, Tryz.ntmps84; go_wp2; go_ret; exact ⟨ret_bool HR.o.symm, rfl⟩
 by_cases g10 : c.toNat ≤ 122
 ·have d1 : decide ((97 : Int) ≤ (c.toNat : Int)) = true := by simp; omega
  have d2 : decide ((c.toNat : Int) ≤ 122) = true := by simp; omega
  have d3 : decide ((65 : Int) ≤ (c.toNat : Int)) = true := by simp; omega
  have d4 : decide ((c.toNat : Int) ≤ 90) = false := by simp; omega
  have d5 : decide ((48 : Int) ≤ (c.toNat : Int)) = true := by simp; omega
  have d6 : decide ((c.toNat : Int) ≤ 57) = false := by simp; omega
  have d7 : ((c.toNat : Int) == 45) = false := by simp; omega
  have d8 : ((c.toNat : Int) == 95) = false := by simp; omega
  have d9 : ((c.toNat : Int) == 46) = false := by simp; omega
  have HR : Hid (wdc c = true) := zz (by unfold wdc lo up dgt; simp; omega); clear cb g0 g1 g2 g3 g4 g5 g6 g7 g8 g9 g10; go_enter Tryz.func84, Tryz.ntmps84; go_wp2; go_ret; exact ⟨ret_bool HR.o.symm, rfl⟩
 have d1 : decide ((97 : Int) ≤ (c.toNat : Int)) = true := by simp; omega
 have d2 : decide ((c.toNat : Int) ≤ 122) = false := by simp; omega
 have d3 : decide ((65 : Int) ≤ (c.toNat : Int)) = true := by simp; omega
 have d4 : decide ((c.toNat : Int) ≤ 90) = false := by simp; omega
 have d5 : decide ((48 : Int) ≤ (c.toNat : Int)) = true := by simp; omega
 have d6 : decide ((c.toNat : Int) ≤ 57) = false := by simp; omega
 have d7 : ((c.toNat : Int) == 45) = false := by simp; omega
 have d8 : ((c.toNat : Int) == 95) = false := by simp; omega
 have d9 : ((c.toNat : Int) == 46) = false := by simp; omega
 have HR : Hid (wdc c = false) := zz (by unfold wdc lo up dgt; simp; omega); clear cb g0 g1 g2 g3 g4 g5 g6 g7 g8 g9 g10; go_enter Tryz.func84, Tryz.ntmps84; go_wp2; go_ret; exact ⟨ret_bool HR.o.symm, rfl⟩
theorem word_any' (l : List UInt8) (w : World) (hs : l.length ≤ 140737488351232) : Calls Tryz.prog 59 #[.string (bs l)] w fun e w' => e = .returned (.bool (wrdB l)) ∧ w = w' := by
 obtain ⟨s, hs0⟩ : ∃ s, s = bs l := ⟨_, rfl⟩; have hsz : s.size = l.length := by rw [hs0]; simp [bs, ByteArray.size]
 have HG : Hid (∀ k (h1 : k < s.size) (h2 : k < l.length), s[k] = l[k]) := zz (fun k h1 h2 => by subst hs0; rfl); rw [← hs0]; have HSZ := zz hsz; clear hs0 hsz; go_enter Tryz.func59, Tryz.ntmps59; go_upto_region 2 with fail
 go_loopw [3] (fun i wr => wr = w ∧ ∃ k : Nat, k ≤ l.length ∧ i = .int .i64 (k : Int) ∧ Hid ((l.take k).all wdc = true)) (fun i _ => l.length - (intOf i).toNat)
 case atStart => exact ⟨rfl, 0, Nat.zero_le _, rfl, by simp [Hid]⟩
 case round =>
  obtain ⟨rfl, k, hk, rfl, HD⟩ := hrel
  by_cases hlt : k < l.length
  rotate_left
  ·obtain rfl : k = l.length := by omega
   have i1 : ¬ ((l.length : Int) < (s.size : Int)) := by have := HSZ.o; omega
   have HA : Hid (l.all wdc = true) := zz (by have := HD.o; rwa [List.take_length] at this)
   by_cases g1 : 1 ≤ s.size
   ·by_cases g2 : s.size ≤ 32
    ·have HR : Hid (wrdB l = true) := zz (by unfold wrdB; rw [HA.o, decide_eq_true (by have := HSZ.o; omega), decide_eq_true (by have := HSZ.o; omega)]; rfl)
     have e1 : decide ((1 : Int) ≤ (s.size : Int)) = true := by simp; omega
     have e2 : decide ((s.size : Int) ≤ 32) = true := by simp; omega
     go_wp2; go_ret; exact ⟨ret_bool HR.o.symm, rfl⟩
    ·have HR : Hid (wrdB l = false) := zz (by unfold wrdB; rw [decide_eq_false (p := l.length ≤ 32) (by have := HSZ.o; omega)]; simp)
     have e1 : decide ((1 : Int) ≤ (s.size : Int)) = true := by simp; omega
     have e2 : decide ((s.size : Int) ≤ 32) = false := by simp; omega
     go_wp2; go_ret; exact ⟨ret_bool HR.o.symm, rfl⟩
   ·have HR : Hid (wrdB l = false) := zz (by unfold wrdB; rw [decide_eq_false (p := 1 ≤ l.length) (by have := HSZ.o; omega)]; simp)
    have e1 : decide ((1 : Int) ≤ (s.size : Int)) = false := by simp; omega
    go_wp2; go_ret; exact ⟨ret_bool HR.o.symm, rfl⟩
  have i1 : (k : Int) < (s.size : Int) := by have := HSZ.o; omega
  have i2 : k < s.size := by have := HSZ.o; omega
  have i3 : (0 : Int) ≤ (k : Int) := by omega
  obtain ⟨c, hc⟩ : ∃ c, c = s[k] := ⟨_, rfl⟩; have HCC : Hid (c = l[k]) := zz (by rw [hc]; exact HG.o k i2 hlt); have hck : s[k] = c := hc.symm; clear hc; obtain ⟨q, hq⟩ : ∃ q, q = wdc c := ⟨_, rfl⟩; have HW : Hid (∀ w, Calls Tryz.prog 84 #[.int .u8 (c.toNat : Int)] w fun e w' => e = .returned (.bool q) ∧ w = w') := zz (fun w => by rw [hq]; exact wordByte_any c w); have HQ := zz hq; clear hq; cases q
  ·have HR : Hid (wrdB l = false) := zz (by unfold wrdB; rw [all_not hlt (by rw [← HCC.o]; exact HQ.o.symm)]; rfl)
   go_wp2_with (go_at_call 84; refine (HW.o _).mono ?_; rintro e w2 ⟨rfl, rfl⟩); go_ret; exact ⟨ret_bool HR.o.symm, rfl⟩
  ·go_wp2_with (go_at_call 84; refine (HW.o _).mono ?_; rintro e w2 ⟨rfl, rfl⟩)
   go_roundw
   case rel => exact ⟨(by first | rfl | trivial), k + 1, hlt, by go_num, zz (by rw [List.take_succ_eq_append_getElem hlt, List.all_append, HD.o, ← HCC.o]; simp [← HQ.o])⟩
   case measure => simp [intOf]; omega
end Go.Proofs.YtdemkfhkibmbnaaGreatDoor.Ru
namespace Go.Proofs.YtdemkfhkibmbnaaGreatDoor.Ft
open Go.RowKit Go.Proofs.YtdemkfhkibmbnaaGreatDoor Go.Proofs.YtdemkfhkibmbnaaGreatDoor.Ru
theorem spec_is (l : List UInt8) : specM 16 l = specB l := by
 unfold specM specB
 rw [Bool.eq_iff_iff]; simp only [Bool.and_eq_true, decide_eq_true_eq]
theorem rname12_any (l : List UInt8) (w : World) (hs : l.length ≤ 140737488351232) : Calls Tryz.prog 35 #[.string (bs l)] w fun e w' => e = .returned (.bool (specB l)) ∧ w = w' := by
 have H : Hid (Calls Tryz.prog 58 #[.string (bs l), .int .i64 16] w fun e w' => e = .returned (.bool (specB l)) ∧ w = w') := zz (by have h9 := dname_any 16 (bs l) w (by omega) (by rw [bs_size]; omega); rw [show (bs l).data.toList = l from by simp [bs], spec_is] at h9; exact h9); obtain ⟨r, hr⟩ : ∃ r, r = specB l := ⟨_, rfl⟩; rw [← hr] at H ⊢; clear hr hs; go_enter Tryz.func35, Tryz.ntmps35; go_wp2_with (go_at_call 58; refine H.o.mono ?_; rintro e w2 ⟨rfl, rfl⟩); go_ret; exact ⟨rfl, rfl⟩
def tkE (j : List UInt8) (i : Int) : Int := if (taskO j i).isSome then 0 else 2
def tkN (j : List UInt8) (i : Int) : List UInt8 := (taskO j i).getD []
theorem tk_no {j : List UInt8} {i : Int} (h : ¬ (specB j = true ∧ 0 ≤ i ∧ i < 64)) : tkE j i = 2 ∧ tkN j i = [] := by
 unfold tkE tkN taskO; rw [if_neg h]; exact ⟨rfl, rfl⟩
theorem tk_yes {j : List UInt8} {u : Nat} (h : specB j = true) (hu : u < 64) : tkE j u = 0 ∧ tkN j u = j ++ [46] ++ Lib.decDigits u := by
 have e : taskO j u = some (j ++ 46 :: Lib.decDigits u) := by unfold taskO; rw [if_pos ⟨h, by omega, by omega⟩, Lib.itoa_nonneg]
 unfold tkE tkN; rw [e]; exact ⟨rfl, by simp⟩
theorem rTask_any (j : List UInt8) (i : Int) (w : World) (hj : j.length ≤ 140737488351232) : Calls Tryz.prog 61 #[.agg #[.string (bs j), .int .i64 i]] w fun e w' => e = .returned (.tuple #[.string (bs (tkN j i)), .int .i64 (tkE j i)]) ∧ Below w.heap.size w w' := by
 obtain ⟨X, hX⟩ : ∃ X, X = w.heap.size := ⟨_, rfl⟩; obtain ⟨w1, hw1⟩ : ∃ w1, w1 = w.alloc (.cells #[.string (bs j), .int .i64 i] 56) := ⟨_, rfl⟩; have HX1 : Hid (Blk w1 X [.string (bs j), .int .i64 i] 56) := zz (by rw [hw1, hX]; exact Blk.made w [.string (bs j), .int .i64 i] _); have HB1 : Hid (Below w.heap.size w w1) := zz (by rw [hw1]; exact below_alloc _ _); have HNM := zz (fun w' => rname12_any j w' hj); obtain ⟨sp, hsp⟩ : ∃ sp, sp = specB j := ⟨_, rfl⟩; rw [← hsp] at HNM; have HSP := zz hsp; obtain ⟨er, her⟩ : ∃ er, er = tkE j i := ⟨_, rfl⟩; obtain ⟨st, hst⟩ : ∃ st, st = tkN j i := ⟨_, rfl⟩; rw [← her, ← hst]; have HER := zz her; have HST := zz hst; have HJL := zz hj; clear hsp hj her hst; go_enter Tryz.func61, Tryz.ntmps61; go_upto_region 1 with fail; rw [← hw1, ← hX]; clear hw1 hX; obtain ⟨x0, x1⟩ := cl2 HX1.o; cases sp
 ·
  have HQ : Hid (er = 2 ∧ st = []) := zz (by rw [HER.o, HST.o]; exact tk_no (by rintro ⟨h, -⟩; rw [← HSP.o] at h; cases h)); go_wp2_with (go_at_call 35; refine (HNM.o _).mono ?_; rintro e w2 ⟨rfl, rfl⟩); go_ret2; exact ⟨by rw [HQ.o.1, HQ.o.2]; rfl, HB1.o⟩
 by_cases h0 : 0 ≤ i
 rotate_left
 ·
  have HQ : Hid (er = 2 ∧ st = []) := zz (by rw [HER.o, HST.o]; exact tk_no (by rintro ⟨-, h, -⟩; exact h0 h)); have d1 : i < 0 := by omega
  go_wp2_with (go_at_call 35; refine (HNM.o _).mono ?_; rintro e w2 ⟨rfl, rfl⟩); go_ret2; exact ⟨by rw [HQ.o.1, HQ.o.2]; rfl, HB1.o⟩
 by_cases h64 : i < 64
 rotate_left
 ·
  have HQ : Hid (er = 2 ∧ st = []) := zz (by rw [HER.o, HST.o]; exact tk_no (by rintro ⟨-, -, h⟩; exact h64 h)); have d1 : ¬ i < 0 := by omega
  have d2 : 64 ≤ i := by omega
  go_wp2_with (go_at_call 35; refine (HNM.o _).mono ?_; rintro e w2 ⟨rfl, rfl⟩); go_ret2; exact ⟨by rw [HQ.o.1, HQ.o.2]; rfl, HB1.o⟩
 have d1 : ¬ i < 0 := by omega
 have d2 : ¬ 64 ≤ i := by omega
 obtain ⟨u, rfl⟩ : ∃ u : Nat, (u : Int) = i := ⟨i.toNat, by omega⟩; have hu : u < 64 := by omega
 have HQ : Hid (er = 0 ∧ st = j ++ [46] ++ Lib.decDigits u) := zz (by rw [HER.o, HST.o]; exact tk_yes HSP.o.symm hu); go_upto_region 3 with (go_at_call 35; refine (HNM.o _).mono ?_; rintro e w2 ⟨rfl, rfl⟩); obtain ⟨p0, p1⟩ := ps2 HX1.o; have HDG : Hid (∀ s : Past w1, Calls Tryz.prog 85 #[.int .i64 (u : Int)] s.val fun e w' => e = .returned (.string ⟨(Lib.decDigits u).toArray⟩) ∧ Below s.val.heap.size s.val w') := zz (fun s => rdigits_any u (by omega) s.val); obtain ⟨dg, hdg⟩ : ∃ dg : List UInt8, dg = Lib.decDigits u := ⟨_, rfl⟩; have HJ : Hid (j.length + 1 + dg.length ≤ 200000000000000) := zz (by have h9 := dec_len u (by omega); rw [← hdg] at h9; have := HJL.o; omega); rw [← hdg] at HDG HQ; clear hdg; obtain ⟨jd, hjd⟩ : ∃ jd, jd = j ++ [46] := ⟨_, rfl⟩
 have hadd1 : ∀ w, (Op.stringOp .add (bs j) ⟨#[46]⟩).run Tryz.prog w = .ok (.string (bs jd)) w := fun w => by rw [hjd]; exact add_bs j [46] (by have := HJ.o; simp; omega) w
 have hadd2 : ∀ w, (Op.stringOp .add (bs jd) ⟨dg.toArray⟩).run Tryz.prog w = .ok (.string (bs st)) w := fun w => by rw [HQ.o.2, hjd]; exact add_bs (j ++ [46]) dg (by have := HJ.o; simp; omega) w
 clear hjd; refine wp_region_past (by kernel_rfl) (by kernel_rfl) ?_
 repeat (go_big_quiet_step ((go_at_call 85; exact past_call (HDG.o _))))
 refine wpQuiet_past ?_; intro w9 h9; have HB9 := zz (below_and HB1.o h9); clear h9; go_wp2; go_ret2; exact ⟨by rw [HQ.o.1]; rfl, HB9.o⟩
theorem dnm_any (j : List UInt8) (i : Int) (w : World) (hj : j.length ≤ 140737488351232) : Calls Tryz.prog 29 #[.agg #[.string (bs j), .int .i64 i]] w fun e w' => e = .returned (.string (bs (tkN j i))) ∧ Below w.heap.size w w' := by
 have HT := zz (fun w' => rTask_any j i w' hj); obtain ⟨er, her⟩ : ∃ er, er = tkE j i := ⟨_, rfl⟩; obtain ⟨st, hst⟩ : ∃ st, st = tkN j i := ⟨_, rfl⟩; rw [← her, ← hst] at HT; rw [← hst]; clear her hst hj; go_enter Tryz.func29, Tryz.ntmps29; go_wp2_with (go_at_call 61; refine (HT.o _).mono ?_; rintro e w2 ⟨rfl, hb⟩; have HB2 := zz hb; clear hb); go_ret; exact ⟨rfl, (by first | exact HB2.o | exact below_and (below_alloc _ _) HB2.o)⟩
theorem okU {u : Us} (h : fineP u = true) : u.a.okB = true := by
 unfold fineP at h
 simp only [Bool.and_eq_true] at h; exact h.2
structure Chk (V : Vw) : Prop where
 nm : 1 ≤ V.nm.length ∧ V.nm.length ≤ 16
 at' : attrsR V.at' = 0
 cap : V.cap.okB = true
 fine : ∀ u ∈ V.us, fineP u = true
 nd : (V.us.map keyU).Nodup
 room : ∀ u ∈ V.us, (roomP V u.n).isSome = true
theorem chk_iff {V : Vw} : checkV V = true ↔ Chk V := by
 unfold checkV
 simp only [Bool.and_eq_true, decide_eq_true_eq, List.all_eq_true]; exact ⟨fun ⟨⟨⟨⟨⟨h1, h2⟩, h3⟩, h4⟩, h5⟩, h6⟩ => ⟨h1, h2, h3, h4, h5, h6⟩, fun h => ⟨⟨⟨⟨⟨h.nm, h.at'⟩, h.cap⟩, h.fine⟩, h.nd⟩, h.room⟩⟩
theorem Chk.oks {V : Vw} (h : Chk V) : Oks V.us := fun u hu => okU (h.fine u hu)
theorem oks_filter {l : List Us} (h : Oks l) (P : Us → Bool) : Oks (l.filter P) := fun u hu => h u (List.mem_filter.1 hu).1
def wholeP (V : Vw) (p : List UInt8) : Option Am := if p = [] then some V.cap else (envP V.us p).map (·.a)
theorem room_whole (V : Vw) (p : List UInt8) : roomP V p = (wholeP V p).bind fun a => takeP a (inP V.us p) := by
 unfold roomP wholeP
 by_cases hp : p = []
 ·rw [if_pos hp, if_pos hp]; rfl
 ·rw [if_neg hp, if_neg hp]
  cases envP V.us p <;> rfl
theorem whole_ok {V : Vw} (h : Chk V) {p : List UInt8} {a : Am} (hw : wholeP V p = some a) : a.okB = true := by
 unfold wholeP at hw
 split at hw
 ·cases hw; exact h.cap
 ·cases he : envP V.us p with
  | none => rw [he] at hw; cases hw
  | some u =>
   rw [he] at hw; cases hw; exact h.oks u (List.mem_of_find?_eq_some he)
theorem in_nil {V : Vw} {p : List UInt8} (h : ¬ ∃ u ∈ V.us, u.n = p) : inP V.us p = [] := by
 unfold inP
 rw [List.filter_eq_nil_iff]; intro u hu he; exact h ⟨u, hu, by simpa using he⟩
theorem room_there {V : Vw} (h : Chk V) {p : List UInt8} {a : Am} (hw : wholeP V p = some a) : ∃ r, roomP V p = some r ∧ a.okB = true ∧ takeP a (inP V.us p) = some r := by
 have ho := whole_ok h hw; have e := room_whole V p; rw [hw] at e; simp only [Option.bind_some] at e
 by_cases hu : ∃ u ∈ V.us, u.n = p
 ·obtain ⟨u, hu, rfl⟩ := hu
  have := h.room u hu
  cases hr : roomP V u.n with
  | none => rw [hr] at this; cases this
  | some r => exact ⟨r, rfl, ho, by rw [← e, hr]⟩
 ·rw [in_nil hu] at e ⊢
  exact ⟨a, e, ho, rfl⟩
end Go.Proofs.YtdemkfhkibmbnaaGreatDoor.Ft
namespace Go.Proofs.YtdemkfhkibmbnaaGreatDoor
open Go.RowKit
def sumF (a : Am) : List Am → Am × Int
 | [] => (a, 0)
 | x :: xs => if (addR a x).2 = 0 then sumF (addR a x).1 xs else (.zero, (addR a x).2)
def sumR (xs : List Am) : Am × Int := if allB xs = false then (.zero, 2) else sumF .zero xs
end Go.Proofs.YtdemkfhkibmbnaaGreatDoor
namespace Go.Proofs.YtdemkfhkibmbnaaGreatDoor.Ft
open Go.RowKit Go.Proofs.YtdemkfhkibmbnaaGreatDoor Go.Proofs.YtdemkfhkibmbnaaGreatDoor.Ru
def sumL (l : List Us) : Am × Int := sumR (l.map (·.a))
theorem allB_of {l : List Us} (h : Oks l) : allB (l.map (·.a)) = true := by
 unfold allB
 rw [List.all_eq_true]; intro x hx; obtain ⟨u, hu, rfl⟩ := List.mem_map.1 hx; exact h u hu
theorem sumF_get : ∀ (l : List Us) (a : Am), a.okB = true → Oks l → (∀ k, k < 4 → a.get k + sumK l k ≤ 1099511627776) → (sumF a (l.map (·.a))).2 = 0 ∧ ∀ k, k < 4 → (sumF a (l.map (·.a))).1.get k = a.get k + sumK l k
 | [], a, _, _, _ => ⟨rfl, fun k _ => by rw [sumK_nil]; show a.get k = _; omega⟩
 | u :: l, a, ha, ho, h => by
  have hol : Oks l := fun x hx => ho x (by simp [hx])
  have hle : ∀ k, k < 4 → a.get k + u.a.get k ≤ 1099511627776 := fun q hq => by
   have h1 := h q hq; rw [sumK_cons] at h1; have := sumK_nonneg hol hq
   omega
  have hg := fun q (hq : q < 4) => add_get ha (ho u (by simp)) hle hq
  have he : (addR a u.a).2 = 0 := by
   rw [addR_ok (z := Am.of fun k => a.get k + u.a.get k) (by rw [ha, ho u (by simp)]; rfl) hle (fun k hk => Am.of_get _ k hk)]
  obtain ⟨i1, i2⟩ := sumF_get l (addR a u.a).1 (hg 0 (by omega)).2 hol (fun q hq => by
   rw [(hg q hq).1]; have h1 := h q hq; rw [sumK_cons] at h1
   omega)
  rw [List.map_cons]
  unfold sumF
  rw [if_pos he]; refine ⟨i1, fun k hk => ?_⟩; rw [i2 k hk, (hg k hk).1, sumK_cons]
  omega
theorem sumF_over : ∀ (l : List Us) (a : Am), a.okB = true → Oks l → (∃ k, k < 4 ∧ 1099511627776 < a.get k + sumK l k) → (sumF a (l.map (·.a))).2 ≠ 0
 | [], a, ha, _, ⟨k, hk, h⟩ => by
  rw [sumK_nil] at h; have := ok_get ha hk
  omega
 | u :: l, a, ha, ho, ⟨k, hk, h⟩ => by
  have hol : Oks l := fun x hx => ho x (by simp [hx])
  rw [List.map_cons]
  unfold sumF
  by_cases hle : ∀ k, k < 4 → a.get k + u.a.get k ≤ 1099511627776
  ·have hg := fun q (hq : q < 4) => add_get ha (ho u (by simp)) hle hq
   have he : (addR a u.a).2 = 0 := by
    rw [addR_ok (z := Am.of fun k => a.get k + u.a.get k) (by rw [ha, ho u (by simp)]; rfl) hle (fun k hk => Am.of_get _ k hk)]
   rw [if_pos he]; refine sumF_over l (addR a u.a).1 (hg 0 (by omega)).2 hol ⟨k, hk, ?_⟩; rw [(hg k hk).1]; rw [sumK_cons] at h
   omega
  ·have he : (addR a u.a).2 ≠ 0 := by
    have ⟨q, hq, hov⟩ : ∃ q, q < 4 ∧ 1099511627776 < a.get q + u.a.get q := by
     apply Classical.byContradiction
     intro hn
     exact hle fun q hq => by
      apply Classical.byContradiction
      intro h9; exact hn ⟨q, hq, by omega⟩
    rw [addR_over (by rw [ha, ho u (by simp)]; rfl) hq hov]
    decide
   rw [if_neg he]; exact he
theorem zero_ok : Am.okB Am.zero = true := by decide
theorem zero_get (k : Nat) (hk : k < 4) : Am.zero.get k = 0 := by
 match k, hk with
 | 0, _ => rfl
 | 1, _ => rfl
 | 2, _ => rfl
 | 3, _ => rfl
 | n + 4, h => omega
theorem sumL_ok {l : List Us} (ho : Oks l) : ((sumL l).2 = 0 ↔ ∀ k, k < 4 → sumK l k ≤ 1099511627776) ∧ ((sumL l).2 = 0 → ∀ k, k < 4 → (sumL l).1.get k = sumK l k) := by
 have e : sumL l = sumF .zero (l.map (·.a)) := by unfold sumL sumR; rw [if_neg (by rw [allB_of ho]; decide)]
 rw [e]
 have key : (∀ k, k < 4 → sumK l k ≤ 1099511627776) → ∀ k, k < 4 → Am.zero.get k + sumK l k ≤ 1099511627776 := fun h k hk => by rw [zero_get k hk]; have := h k hk; omega
 have hiff : (sumF .zero (l.map (·.a))).2 = 0 ↔ ∀ k, k < 4 → sumK l k ≤ 1099511627776 := by
  constructor
  ·intro h k hk
   apply Classical.byContradiction
   intro hn; exact sumF_over l .zero zero_ok ho ⟨k, hk, by rw [zero_get k hk]; omega⟩ h
  ·intro h
   exact (sumF_get l .zero zero_ok ho (key h)).1
 refine ⟨hiff, fun h k hk => ?_⟩; have := (sumF_get l .zero zero_ok ho (key (hiff.1 h))).2 k hk; rw [this, zero_get k hk]
 omega
def denv (l : List Us) (p : List UInt8) : Option Us := l.find? fun u => u.e && nmU u == p
def dfits (V : Vw) (p : List UInt8) (whole : Am) : Bool := decide ((sumL (inP V.us p)).2 = 0) && fitsB (sumL (inP V.us p)).1 whole
def dfine (u : Us) : Bool := decide (0 ≤ u.d) && decide (u.d ≤ 3) && u.a.okB && !(nmU u == []) && !(u.e && !(u.n == []))
def dloc (V : Vw) (u : Us) : Bool := (u.n == [] || (denv V.us u.n).isSome) && (!u.e || dfits V (nmU u) u.a)
def dchkV (V : Vw) : Bool := decide (1 ≤ V.nm.length ∧ V.nm.length ≤ 16) && decide (attrsR V.at' = 0) && V.cap.okB && V.us.all dfine && decide ((V.us.map keyU).Nodup) && dfits V [] V.cap && V.us.all (dloc V)
theorem dfits_iff {V : Vw} (ho : Oks V.us) {p : List UInt8} {a : Am} (ha : a.okB = true) : dfits V p a = true ↔ ∀ k, k < 4 → sumK (inP V.us p) k ≤ a.get k := by
 have hof : Oks (inP V.us p) := oks_filter ho _; obtain ⟨h1, h2⟩ := sumL_ok hof
 unfold dfits
 simp only [Bool.and_eq_true, decide_eq_true_eq]
 constructor
 ·rintro ⟨g1, g2⟩ k hk
  have := fits_iff.1 g2 k hk; rw [h2 g1 k hk] at this; exact this
 ·intro h
  have hs : (sumL (inP V.us p)).2 = 0 := h1.2 fun k hk => by have := h k hk; have := ok_get ha hk; omega
  refine ⟨hs, fits_iff.2 fun k hk => ?_⟩; rw [h2 hs k hk]; exact h k hk
theorem take_iff {l : List Us} {a : Am} (ha : a.okB = true) (ho : Oks l) : (takeP a l).isSome = true ↔ ∀ k, k < 4 → sumK l k ≤ a.get k := by
 constructor
 ·intro h k hk
  obtain ⟨r, hr⟩ := Option.isSome_iff_exists.1 h; exact take_fits ha hr k hk
 ·intro h
  obtain ⟨r, hr⟩ := take_of ha ho h; rw [hr]; rfl
theorem nmU_some {u : Us} {s : List UInt8} (h : taskO u.j u.i = some s) : nmU u = s ∧ s ≠ [] := by
 refine ⟨by unfold nmU; rw [h]; rfl, ?_⟩
 unfold taskO at h
 split at h
 ·cases h; simp
 ·cases h
theorem dfine_eq (u : Us) : dfine u = fineP u := by
 have h : (!(nmU u == [])) = (taskO u.j u.i).isSome := by
  cases ht : taskO u.j u.i with
  | none => unfold nmU; rw [ht]; rfl
  | some s =>
   obtain ⟨h1, h2⟩ := nmU_some ht; rw [h1]
   simp [h2]
 unfold dfine fineP
 rw [h]; cases (taskO u.j u.i).isSome <;> cases decide (0 ≤ u.d) <;> cases decide (u.d ≤ 3) <;> cases u.a.okB <;> cases (u.e && !(u.n == [])) <;> rfl
theorem cut_inj {x : UInt8} : ∀ (a a' b b' : List UInt8), x ∉ a → x ∉ a' → a ++ x :: b = a' ++ x :: b' → a = a' ∧ b = b'
 | [], [], b, b', _, _, h => by simpa using h
 | [], c :: a', b, b', _, h', h => by
  simp only [List.nil_append, List.cons_append, List.cons.injEq] at h; exact absurd (by rw [h.1]; simp) h'
 | c :: a, [], b, b', h0, _, h => by
  simp only [List.nil_append, List.cons_append, List.cons.injEq] at h; exact absurd (by rw [← h.1]; simp) h0
 | c :: a, c' :: a', b, b', h0, h0', h => by
  simp only [List.cons_append, List.cons.injEq] at h; obtain ⟨i1, i2⟩ := cut_inj a a' b b' (fun g => h0 (by simp [g])) (fun g => h0' (by simp [g])) h.2; exact ⟨by rw [h.1, i1], i2⟩
theorem spec_dot {l : List UInt8} (h : specB l = true) : (46 : UInt8) ∉ l := by
 intro hm
 unfold specB at h
 simp only [Bool.and_eq_true, List.all_eq_true] at h; have := h.2 46 hm
 revert this
 decide
theorem task_inj {j j' : List UInt8} {i i' : Int} {s : List UInt8} (h : taskO j i = some s) (h' : taskO j' i' = some s) : j = j' ∧ i = i' := by
 unfold taskO at h h'
 split at h
 ·next g =>
  split at h'
  ·next g' =>
   have e : j ++ 46 :: Lib.itoa i = j' ++ 46 :: Lib.itoa i' := by rw [Option.some.inj h, Option.some.inj h']
   obtain ⟨e1, e2⟩ := cut_inj _ _ _ _ (spec_dot g.1) (spec_dot g'.1) e; refine ⟨e1, ?_⟩; have h1 := (itoa_facts (x := i) g.2.1 (by have := g.2.2; omega)).2.1; have h2 := (itoa_facts (x := i') g'.2.1 (by have := g'.2.2; omega)).2.1; rw [← h1, ← h2, e2]
  ·cases h'
 ·cases h
theorem nodup_key {l : List Us} (h : (l.map keyU).Nodup) {u u' : Us} (hu : u ∈ l) (hu' : u' ∈ l) (hk : keyU u = keyU u') : u = u' := by
 induction l with
 | nil => cases hu
 | cons x l ih =>
  rw [List.map_cons, List.nodup_cons] at h; rcases List.mem_cons.1 hu with g1 | g1
  ·rcases List.mem_cons.1 hu' with g2 | g2
   ·rw [g1, g2]
   ·exact absurd (by rw [← g1, hk]; exact List.mem_map_of_mem g2) h.1
  ·rcases List.mem_cons.1 hu' with g2 | g2
   ·exact absurd (by rw [← g2, ← hk]; exact List.mem_map_of_mem g1) h.1
   ·exact ih h.2 g1 g2
theorem denv_eq {l : List Us} (hf : ∀ u ∈ l, fineP u = true) {p : List UInt8} (hp : p ≠ []) : denv l p = envP l p := by
 unfold denv envP
 induction l with
 | nil => rfl
 | cons u l ih =>
  have hu := hf u (by simp)
  have e : (u.e && nmU u == p) = isEnv p u := by
   unfold fineP at hu
   simp only [Bool.and_eq_true, Bool.not_eq_true', Bool.and_eq_false_iff, Bool.not_eq_false', decide_eq_true_eq] at hu; obtain ⟨⟨⟨⟨h1, h2⟩, -⟩, -⟩, -⟩ := hu; obtain ⟨s, hs⟩ := Option.isSome_iff_exists.1 h1; obtain ⟨g1, g2⟩ := nmU_some hs
   unfold isEnv
   rw [hs, g1]; rcases h2 with h2 | h2
   ·rw [h2]; rfl
   ·rw [h2]
    cases u.e
    ·rfl
    ·by_cases hsp : s = p
     ·subst hsp; simp
     ·have h3 : (s == p) = false := by simpa using hsp
      have h4 : (some s == some p) = false := by simpa using hsp
      rw [h3, h4]; rfl
  rw [List.find?_cons, List.find?_cons, e, ih (fun x hx => hf x (by simp [hx]))]
theorem dchkV_eq (V : Vw) : dchkV V = checkV V := by
 have hfi : V.us.all dfine = V.us.all fineP := by congr 1; funext u; exact dfine_eq u
 unfold dchkV checkV
 rw [hfi]
 by_cases hb : (decide (1 ≤ V.nm.length ∧ V.nm.length ≤ 16) && decide (attrsR V.at' = 0) && V.cap.okB && V.us.all fineP && decide ((V.us.map keyU).Nodup)) = true
 rotate_left
 ·have hb' : (decide (1 ≤ V.nm.length ∧ V.nm.length ≤ 16) && decide (attrsR V.at' = 0) && V.cap.okB && V.us.all fineP && decide ((V.us.map keyU).Nodup)) = false := by simpa using hb
  rw [hb']
  rfl
 rw [hb]; simp only [Bool.true_and]; simp only [Bool.and_eq_true, decide_eq_true_eq, List.all_eq_true] at hb; obtain ⟨⟨⟨⟨-, -⟩, hcap⟩, hfine⟩, hnd⟩ := hb
 have ho : Oks V.us := fun u hu => okU (hfine u hu)
 have hd0 := dfits_iff (V := V) ho (p := []) hcap; rw [Bool.eq_iff_iff]; simp only [Bool.and_eq_true, List.all_eq_true]
 constructor
 ·rintro ⟨h0, hl⟩ u hu
  unfold roomP
  by_cases hn : u.n = []
  ·rw [if_pos hn, hn]
   exact (take_iff hcap (oks_filter ho _)).2 (hd0.1 h0)
  ·rw [if_neg hn]
   have h1 := hl u hu
   unfold dloc at h1
   simp only [Bool.and_eq_true, Bool.or_eq_true, beq_iff_eq] at h1; rcases h1.1 with h2 | h2
   ·exact absurd h2 hn
   ·rw [denv_eq hfine hn] at h2
    obtain ⟨x, hx⟩ := Option.isSome_iff_exists.1 h2; have hxm : x ∈ V.us := List.mem_of_find?_eq_some hx; have hxe := List.find?_some hx; rw [hx]
    simp only
    unfold isEnv at hxe
    simp only [Bool.and_eq_true, beq_iff_eq] at hxe; have hnx := (nmU_some hxe.2).1; have h3 := hl x hxm
    unfold dloc at h3
    simp only [Bool.and_eq_true, Bool.or_eq_true, Bool.not_eq_true'] at h3; rcases h3.2 with h4 | h4
    ·rw [hxe.1.1] at h4; cases h4
    ·rw [hnx] at h4
     exact (take_iff (ho x hxm) (oks_filter ho _)).2 ((dfits_iff ho (ho x hxm)).1 h4)
 ·intro h
  refine ⟨?_, fun u hu => ?_⟩
  ·rw [hd0]
   by_cases hex : ∃ u ∈ V.us, u.n = []
   ·obtain ⟨u, hu, hn⟩ := hex
    have h1 := h u hu
    unfold roomP at h1
    rw [if_pos hn, hn] at h1; exact (take_iff hcap (oks_filter ho _)).1 h1
   ·rw [in_nil hex]
    intro k hk; rw [sumK_nil]; exact (ok_get hcap hk).1
  ·unfold dloc
   simp only [Bool.and_eq_true, Bool.or_eq_true, beq_iff_eq, Bool.not_eq_true']; refine ⟨?_, ?_⟩
   ·by_cases hn : u.n = []
    ·exact .inl hn
    ·right
     rw [denv_eq hfine hn]; have h1 := h u hu
     unfold roomP at h1
     rw [if_neg hn] at h1
     cases he : envP V.us u.n with
     | none => rw [he] at h1; cases h1
     | some x => rfl
   ·cases hue : u.e
    ·exact .inl rfl
    ·right
     have hfu := hfine u hu
     unfold fineP at hfu
     simp only [Bool.and_eq_true] at hfu; obtain ⟨s, hs⟩ := Option.isSome_iff_exists.1 hfu.1.1.1.1; obtain ⟨g1, g2⟩ := nmU_some hs; rw [dfits_iff ho (ho u hu), g1]
     by_cases hex : ∃ x ∈ V.us, x.n = s
     ·obtain ⟨x, hx, hn⟩ := hex
      have h1 := h x hx
      unfold roomP at h1
      rw [if_neg (by rw [hn]; exact g2), hn] at h1
      cases he : envP V.us s with
      | none => rw [he] at h1; cases h1
      | some y =>
       rw [he] at h1; have hym : y ∈ V.us := List.mem_of_find?_eq_some he; have hye := List.find?_some he
       unfold isEnv at hye
       simp only [Bool.and_eq_true, beq_iff_eq] at hye; obtain ⟨k1, k2⟩ := task_inj hye.2 hs; have : y = u := nodup_key hnd hym hu (by unfold keyU; rw [k1, k2]); subst this; exact (take_iff (ho y hym) (oks_filter ho _)).1 h1
     ·rw [in_nil hex]
      intro k hk; rw [sumK_nil]; exact (ok_get (ho u hu) hk).1
def dwhole (V : Vw) (p : List UInt8) : Am := if p = [] then V.cap else ((denv V.us p).map (·.a)).getD Am.zero
def droomR (V : Vw) (p : List UInt8) : Am × Int := if checkV V = false ∨ (p ≠ [] ∧ (denv V.us p).isSome = false) then (Am.zero, 2) else ((subR (dwhole V p) (sumL (inP V.us p)).1).1, 0)
theorem droomR_eq (V : Vw) (p : List UInt8) : droomR V p = roomR V p := by
 unfold droomR roomR
 by_cases hc : checkV V = false
 ·rw [if_pos (.inl hc), if_pos hc]
 ·have hc' : checkV V = true := by simpa using hc
  have hk := chk_iff.1 hc'; rw [if_neg hc]
  have main : ∀ a, wholeP V p = some a → dwhole V p = a → ((subR (dwhole V p) (sumL (inP V.us p)).1).1, (0 : Int)) = (match roomP V p with | some a => (a, 0) | none => (Am.zero, 2)) := by
   intro a hw hd; obtain ⟨r, hr, ha, ht⟩ := room_there hk hw; rw [hr, hd]; have hof : Oks (inP V.us p) := oks_filter hk.oks _
   have hle := fun k (h4 : k < 4) => take_fits ha ht k h4
   obtain ⟨s1, s2⟩ := sumL_ok hof
   have hs : (sumL (inP V.us p)).2 = 0 := s1.2 fun k h4 => by have := hle k h4; have := ok_get ha h4; omega
   have hso : (sumL (inP V.us p)).1.okB = true := (Am.okB_iff _).2 fun k h4 => by
    rw [s2 hs k h4]; have := hle k h4; have := ok_get ha h4; have := sumK_nonneg hof h4
    omega
   have hsub : (subR a (sumL (inP V.us p)).1).2 = 0 := sub_iff.2 ⟨ha, hso, fits_iff.2 fun k h4 => by rw [s2 hs k h4]; exact hle k h4⟩
   have : (subR a (sumL (inP V.us p)).1).1 = r := Am.ext_get fun k h4 => by
    rw [sub_get hsub h4, s2 hs k h4, (take_get ha ht k h4).1]
   rw [this]
  by_cases hp : p = []
  ·rw [if_neg (by rintro (h | h); exact hc h; exact h.1 hp)]
   exact main V.cap (by unfold wholeP; rw [if_pos hp]) (by unfold dwhole; rw [if_pos hp])
  ·have e := denv_eq hk.fine hp
   cases he : envP V.us p with
   | none =>
    rw [if_pos (.inr ⟨hp, by rw [e, he]; rfl⟩)]
    unfold roomP
    rw [if_neg hp, he]
   | some x =>
    rw [if_neg (by rintro (h | h); exact hc h; rw [e, he] at h; cases h.2)]; exact main x.a (by unfold wholeP; rw [if_neg hp, he]; rfl) (by unfold dwhole; rw [if_neg hp, e, he]; rfl)
theorem spec_any (s : ByteArray) (w : World) :
  Calls Tryz.prog 32 #[.string s] w fun e w' => e = .returned (.bool (specB s.data.toList)) ∧ Below w.heap.size w w' := by
 obtain ⟨wq, cap, hcv, hbl, hcell⟩ := ruconv s w; obtain ⟨l, hl⟩ : ∃ l, l = s.data.toList := ⟨_, rfl⟩; have hsz : s.size = l.length := by rw [hl]; simp
 rw [← hl]
 by_cases h0 : s.size < 1
 ·have HR : Hid (specB l = false) := zz (by unfold specB; rw [decide_eq_false (by omega)]; rfl)
  have e0 : decide ((s.size : Int) < 1) = true := by simp; omega
  clear hcv hbl hcell hl hsz; go_enter Tryz.func32, Tryz.ntmps32; go_wp2; go_ret; exact ⟨ret_bool HR.o.symm, Below.refl _ _⟩
 have e0 : decide ((s.size : Int) < 1) = false := by simp; omega
 by_cases h1 : 16 < s.size
 ·have HR : Hid (specB l = false) := zz (by unfold specB; rw [decide_eq_false (by omega)]; rfl)
  have e1 : decide ((16 : Int) < (s.size : Int)) = true := by simp; omega
  clear hcv hbl hcell hl hsz; go_enter Tryz.func32, Tryz.ntmps32; go_wp2; go_ret; exact ⟨ret_bool HR.o.symm, Below.refl _ _⟩
 have e1 : decide ((16 : Int) < (s.size : Int)) = false := by simp; omega
 have hl1 : l.length ≤ 16 := by omega
 have i0 : 0 < s.size := by omega
 obtain ⟨c0, hc0⟩ : ∃ c0, c0 = s[0] := ⟨_, rfl⟩
 have HC0 : Hid (hd lo l = lo c0) := zz (by
  subst hl; rw [hc0]
  cases hq : s.data.toList with
  | nil =>
   have g1 : s.data.toList.length = 0 := by rw [hq]; rfl
   have g2 : s.data.toList.length = s.size := by simp
   omega
  | cons c r =>
   have : s[0] = c := by
    have h2 : s.data.toList[0]'(by simpa using i0) = s[0] := rfl; rw [← h2]; simp [hq]
   rw [this]; rfl)
 have hcc : s[0] = c0 := hc0.symm; clear hc0
 by_cases h2 : c0.toNat < 97
 ·have HR : Hid (specB l = false) := zz (by unfold specB; rw [HC0.o, show lo c0 = false from by unfold lo; simp; omega]; simp)
  have e2 : decide ((c0.toNat : Int) < 97) = true := by simp; omega
  clear hcv hbl hcell hl hsz h0 h1; go_enter Tryz.func32, Tryz.ntmps32; go_wp2; go_ret; exact ⟨ret_bool HR.o.symm, Below.refl _ _⟩
 have e2 : decide ((c0.toNat : Int) < 97) = false := by simp; omega
 by_cases h3 : 122 < c0.toNat
 ·have HR : Hid (specB l = false) := zz (by unfold specB; rw [HC0.o, show lo c0 = false from by unfold lo; simp; omega]; simp)
  have e3 : decide ((122 : Int) < (c0.toNat : Int)) = true := by simp; omega
  clear hcv hbl hcell hl hsz h0 h1; go_enter Tryz.func32, Tryz.ntmps32; go_wp2; go_ret; exact ⟨ret_bool HR.o.symm, Below.refl _ _⟩
 have e3 : decide ((122 : Int) < (c0.toNat : Int)) = false := by simp; omega
 have HH : Hid (specB l = l.all nmc) := zz (by unfold specB; rw [HC0.o, show lo c0 = true from by unfold lo; simp; omega, decide_eq_true (by omega)]; rfl); clear h2 h3; have HB := zz hbl
 have HC : Hid (∀ j (h : j < l.length), wq.cell? ⟨w.heap.size, j, none⟩ = some (.int .u8 (l[j].toNat : Int))) := zz (fun j hj => by
  rw [hcell j (by omega), ← hl]
  simp [List.getD, hj])
 have HSZ := zz hsz; have HL0 : Hid (0 < l.length) := zz (by omega); clear hbl hcell hl hsz h0 h1; go_enter Tryz.func32, Tryz.ntmps32; go_wp2
 go_loopw [26] (fun i wr => ∃ k : Nat, k ≤ l.length ∧ i = .int .i64 (k : Int) ∧ Hid ((l.take k).all nmc = true) ∧ Hid (Below wq.heap.size wq wr)) (fun i _ => l.length - (intOf i).toNat)
 case atStart => exact ⟨0, Nat.zero_le _, rfl, by simp [Hid], zz (Below.refl _ _)⟩
 case round =>
  obtain ⟨k, hk, rfl, HD, HBR⟩ := hrel
  have HBZ : Hid (w.heap.size < wq.heap.size) := zz (by
   have h := HB.o.size; rcases Nat.lt_or_ge w.heap.size wq.heap.size with h' | h'
   ·exact h'
   ·exfalso
    have hc := HC.o 0 HL0.o
    unfold World.cell? at hc
    rw [Array.getElem?_eq_none (by omega)] at hc
    cases hc)
  by_cases hlt : k < l.length
  ·have hc : wr.cell? ⟨w.heap.size, k, none⟩ = some (.int .u8 (l[k].toNat : Int)) := by rw [HBR.o.cell HBZ.o]; exact HC.o k hlt
   have i1 : (k : Int) < (s.size : Int) := by have := HSZ.o; omega
   have i2 : (0 : Int) ≤ (k : Int) := by omega
   obtain ⟨c, hcq⟩ : ∃ c, c = l[k] := ⟨_, rfl⟩; rw [← hcq] at hc; have HCC := zz hcq; clear hcq; have cb := c.toNat_lt; have HNM : Hid (nmc c = (lo c || dgt c || c.toNat == 45)) := zz rfl
   by_cases h97 : c.toNat < 97
   ·have d1 : decide ((c.toNat : Int) < 97) = true := by simp; omega
    have HLO : Hid (lo c = false) := zz (by unfold lo; simp; omega); clear h97
    by_cases h48 : c.toNat < 48
    ·have d3 : decide ((c.toNat : Int) < 48) = true := by simp; omega
     have HDG : Hid (dgt c = false) := zz (by unfold dgt; simp; omega)
     by_cases h45 : c.toNat = 45
     ·have d5 : ((c.toNat : Int) != 45) = false := by simp; omega
      have HN0 : Hid (nmc c = true) := zz (by rw [HNM.o, h45]; simp); clear h45 h48; have HN : Hid (nmc c = true) := zz (HN0.o); go_wp2; go_roundw
      case rel => exact ⟨k + 1, hlt, rfl, zz (by rw [List.take_succ_eq_append_getElem hlt, List.all_append, HD.o, ← HCC.o]; simp [HN.o]), HBR⟩
      case measure => simp [intOf]; omega
     ·have d5 : ((c.toNat : Int) != 45) = true := by simp; omega
      have HR : Hid (specB l = false) := zz (by rw [HH.o]; exact all_no hlt (by rw [← HCC.o, HNM.o, HLO.o, HDG.o]; simp [h45])); clear h45 h48; go_wp2; go_ret; exact ⟨ret_bool HR.o.symm, HB.o.trans (HBR.o.mono (Nat.le_of_lt HBZ.o))⟩
    ·have d3 : decide ((c.toNat : Int) < 48) = false := by simp; omega
     by_cases h57 : 57 < c.toNat
     ·have d4 : decide ((57 : Int) < (c.toNat : Int)) = true := by simp; omega
      have d5 : ((c.toNat : Int) != 45) = true := by simp; omega
      have HDG : Hid (dgt c = false) := zz (by unfold dgt; simp; omega); have HR : Hid (specB l = false) := zz (by rw [HH.o]; exact all_no hlt (by rw [← HCC.o, HNM.o, HLO.o, HDG.o]; simp; omega)); clear h48 h57; go_wp2; go_ret; exact ⟨ret_bool HR.o.symm, HB.o.trans (HBR.o.mono (Nat.le_of_lt HBZ.o))⟩
     ·have d4 : decide ((57 : Int) < (c.toNat : Int)) = false := by simp; omega
      have HN0 : Hid (nmc c = true) := zz (by rw [HNM.o, show dgt c = true from by unfold dgt; simp; omega]; simp); clear h48 h57; have HN : Hid (nmc c = true) := zz (HN0.o); go_wp2; go_roundw
      case rel => exact ⟨k + 1, hlt, rfl, zz (by rw [List.take_succ_eq_append_getElem hlt, List.all_append, HD.o, ← HCC.o]; simp [HN.o]), HBR⟩
      case measure => simp [intOf]; omega
   ·have d1 : decide ((c.toNat : Int) < 97) = false := by simp; omega
    by_cases h122 : 122 < c.toNat
    ·have d2 : decide ((122 : Int) < (c.toNat : Int)) = true := by simp; omega
     have HLO : Hid (lo c = false) := zz (by unfold lo; simp; omega); clear h97 h122
     by_cases h48 : c.toNat < 48
     ·have d3 : decide ((c.toNat : Int) < 48) = true := by simp; omega
      have HDG : Hid (dgt c = false) := zz (by unfold dgt; simp; omega)
      by_cases h45 : c.toNat = 45
      ·have d5 : ((c.toNat : Int) != 45) = false := by simp; omega
       have HN0 : Hid (nmc c = true) := zz (by rw [HNM.o, h45]; simp); clear h45 h48; have HN : Hid (nmc c = true) := zz (HN0.o); go_wp2; go_roundw
       case rel => exact ⟨k + 1, hlt, rfl, zz (by rw [List.take_succ_eq_append_getElem hlt, List.all_append, HD.o, ← HCC.o]; simp [HN.o]), HBR⟩
       case measure => simp [intOf]; omega
      ·have d5 : ((c.toNat : Int) != 45) = true := by simp; omega
       have HR : Hid (specB l = false) := zz (by rw [HH.o]; exact all_no hlt (by rw [← HCC.o, HNM.o, HLO.o, HDG.o]; simp [h45])); clear h45 h48; go_wp2; go_ret; exact ⟨ret_bool HR.o.symm, HB.o.trans (HBR.o.mono (Nat.le_of_lt HBZ.o))⟩
     ·have d3 : decide ((c.toNat : Int) < 48) = false := by simp; omega
      by_cases h57 : 57 < c.toNat
      ·have d4 : decide ((57 : Int) < (c.toNat : Int)) = true := by simp; omega
       have d5 : ((c.toNat : Int) != 45) = true := by simp; omega
       have HDG : Hid (dgt c = false) := zz (by unfold dgt; simp; omega); have HR : Hid (specB l = false) := zz (by rw [HH.o]; exact all_no hlt (by rw [← HCC.o, HNM.o, HLO.o, HDG.o]; simp; omega)); clear h48 h57; go_wp2; go_ret; exact ⟨ret_bool HR.o.symm, HB.o.trans (HBR.o.mono (Nat.le_of_lt HBZ.o))⟩
      ·have d4 : decide ((57 : Int) < (c.toNat : Int)) = false := by simp; omega
       have HN0 : Hid (nmc c = true) := zz (by rw [HNM.o, show dgt c = true from by unfold dgt; simp; omega]; simp); clear h48 h57; have HN : Hid (nmc c = true) := zz (HN0.o); go_wp2; go_roundw
       case rel => exact ⟨k + 1, hlt, rfl, zz (by rw [List.take_succ_eq_append_getElem hlt, List.all_append, HD.o, ← HCC.o]; simp [HN.o]), HBR⟩
       case measure => simp [intOf]; omega
    ·have d2 : decide ((122 : Int) < (c.toNat : Int)) = false := by simp; omega
     have HN : Hid (nmc c = true) := zz (by rw [HNM.o, show lo c = true from by unfold lo; simp; omega]; simp); clear h97 h122; go_wp2; go_roundw
     case rel => exact ⟨k + 1, hlt, rfl, zz (by rw [List.take_succ_eq_append_getElem hlt, List.all_append, HD.o, ← HCC.o]; simp [HN.o]), HBR⟩
     case measure => simp [intOf]; omega
  ·have i1 : ¬ (k : Int) < (s.size : Int) := by have := HSZ.o; omega
   have HR : Hid (specB l = true) := zz (by rw [HH.o]; have := HD.o; rwa [List.take_of_length_le (by omega)] at this); clear hlt; go_wp2; go_ret; exact ⟨ret_bool HR.o.symm, HB.o.trans (HBR.o.mono (Nat.le_of_lt HBZ.o))⟩
