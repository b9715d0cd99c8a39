/- , laid together: RdMem, RuToldP, RdPlain, RdSim, Lin, CutH, RuNode. -/
import Derived.Test.YtdnoceancoclmaaGreatDoorRuMem
import Derived.Test.YtdnoceancoclmaaGreatDoorM10
import Derived.Test.YtdnoceancoclmaaGreatDoorRuTold
import Derived.Test.YtdnoceancoclmaaGreatDoorLate
import Derived.Deep.RegionHeld3
namespace Go.Proofs.YtdnoceancoclmaaGreatDoor.Ru
open Go.RowKit Go.Proofs.YtdnoceancoclmaaGreatDoor

/-- the parser: block b; place k, the nodes L in the slice v, is there a fault, the fault e at a, n counted -/
structure Dp (base : Nat) (w : World) (b : Nat) (s : ByteArray) (k : Nat) (v : Value) (L : List Nd) (bd : Bool) (e a n : Int) : Prop where
  blk : Blk w b [.string s, .int .i64 (k : Int), v, .int .i64 e, .int .i64 a, .bool bd, .int .i64 n] 72
  own : w.ownsRow base 52 6 v L.length (rwC ndC L)
  hb : base ≤ b
  sz : s.size ≤ 1024
  er : bd = true → e ≠ 0
  ln : L.length ≤ 1000
section
variable {base : Nat} {w w' : World} {b : Nat} {s : ByteArray} {k : Nat} {n : Int} {v : Value} {L : List Nd} {bd : Bool} {e a : Int}
theorem Dp.nb (h : Dp base w b s k v L bd e a n) : v.ownBlock ≠ some b := own_ty h.own h.blk (by decide)
theorem Dp.kept (h : Dp base w b s k v L bd e a n) (hb : Below w.heap.size w w') : Dp base w' b s k v L bd e a n :=
  ⟨h.blk.kept hb, own_fr h.own (Fr.of_below hb []) (fun _ _ => by simp), h.hb, h.sz, h.er, h.ln⟩
theorem Dp.at (h : Dp base w b s k v L bd e a n) (k' : Nat) : Dp base (w.setCell ⟨b, 1, none⟩ (.int .i64 (k' : Int))) b s k' v L bd e a n :=
  ⟨h.blk.set 1 _, own_other h.own (p := ⟨b, 1, none⟩) h.nb _, h.hb, h.sz, h.er, h.ln⟩
theorem Dp.num (h : Dp base w b s k v L bd e a n) (n' : Int) : Dp base (w.setCell ⟨b, 6, none⟩ (.int .i64 n')) b s k v L bd e a n' :=
  ⟨h.blk.set 6 _, own_other h.own (p := ⟨b, 6, none⟩) h.nb _, h.hb, h.sz, h.er, h.ln⟩
theorem Dp.fault (h : Dp base w b s k v L bd e a n) (e' a' : Int) (he : e' ≠ 0) : Dp base (((w.setCell ⟨b, 5, none⟩ (.bool true)).setCell ⟨b, 3, none⟩ (.int .i64 e')).setCell ⟨b, 4, none⟩ (.int .i64 a')) b s k v L true e' a' n :=
  ⟨((h.blk.set 5 _).set 3 _).set 4 _, own_other (own_other (own_other h.own (p := ⟨b, 5, none⟩) h.nb _) (p := ⟨b, 3, none⟩) h.nb _) (p := ⟨b, 4, none⟩) h.nb _, h.hb, h.sz, fun _ => he, h.ln⟩
theorem Dp.off (h : Dp base w b s k v L bd e a n) {Y : Nat} (hY : Y ≠ b) (hv : v.ownBlock ≠ some Y) (i : Nat) (u : Value) : Dp base (w.setCell ⟨Y, i, none⟩ u) b s k v L bd e a n :=
  ⟨h.blk.other (a := ⟨Y, i, none⟩) (Ne.symm hY) u, own_other h.own (p := ⟨Y, i, none⟩) hv u, h.hb, h.sz, h.er, h.ln⟩
end
/-- .. whatever its fault is -/
def Dq (base : Nat) (w : World) (b : Nat) (s : ByteArray) (k : Nat) (v : Value) (L : List Nd) (bd : Bool) (n : Int) : Prop := ∃ e a, Dp base w b s k v L bd e a n
set_option maxRecDepth 100000 in
set_option maxHeartbeats 1000000 in
theorem dblanks_any (base b : Nat) (s : ByteArray) (k : Nat) (n : Int) (v : Value) (L : List Nd) (bd : Bool) (e a : Int) (w : World) (h : Dp base w b s k v L bd e a n) (hk : k ≤ s.size) :
    Calls Tryz.prog 63 #[ptr b] w fun r w' => r = .returned (.tuple #[]) ∧ Dp base w' b s (skip s k) v L bd e a n ∧ Onb b w w' := by
  obtain ⟨hj1, hj2, -, hj4, hj5⟩ := skip_is hk
  obtain ⟨j, hj⟩ : ∃ j, j = skip s k := ⟨_, rfl⟩
  rw [← hj] at hj1 hj2 ⊢
  have HSP : Hid (∀ i (hi : i < s.size), k ≤ i → i < j → sp s[i] = true) := Lib.hid (fun i hi h1 h2 => hj4 i hi h1 (by omega))
  have HST : Hid (∀ h : j < s.size, sp s[j] = false) := Lib.hid (by subst hj; exact hj5)
  have H := Lib.hid h
  have hsz := h.sz
  clear h hj4 hj5 hj
  go_enter Tryz.func63, Tryz.ntmps63
  go_wp2
  go_loopw [] (fun wr => ∃ i : Nat, k ≤ i ∧ i ≤ j ∧ Hid (Dp base wr b s i v L bd e a n) ∧ Hid (Onb b w wr)) (fun wr => j - (intOf ((wr.cell? ⟨b, 1, none⟩).getD undef)).toNat)
  case atStart => exact ⟨k, Nat.le_refl _, hj1, H, Lib.hid (Frp.refl _ _)⟩
  case round =>
    obtain ⟨i, h1, h2, HP, HF⟩ := hrel
    have b0 := Past.blk HP.out.blk (j := 0) rfl
    have b1 := Past.blk HP.out.blk (j := 1) rfl
    have i0 : (0 : Int) ≤ (i : Int) := by omega
    by_cases hlt : i < j
    · have i2 : i < s.size := by omega
      have i1 : (i : Int) < (s.size : Int) := by omega
      obtain ⟨c, hc⟩ : ∃ c, c = s[i] := ⟨_, rfl⟩
      have hq := HSP.out i i2 h1 hlt
      have hcc : s[i] = c := hc.symm
      have t1 : ((c.toNat : Int) == 32) = true := by rw [hcc] at hq; unfold sp at hq; simp at hq ⊢; omega
      clear hc hq
      go_wp2
      refine wp_region_past (by kernel_rfl) (by kernel_rfl) ?_
      repeat (go_big_quiet_step (fail))
      refine wpQuiet_nil ?_
      intro _ hw'
      obtain ⟨s9, hw''⟩ := hw'
      subst hw''
      obtain ⟨w9, h9, e9⟩ : ∃ w9, Below wr.heap.size wr w9 ∧ w9 = s9.val := ⟨_, s9.h, rfl⟩
      rw [← e9]
      have HN := Lib.hid (HP.out.kept h9)
      have HF9 := Lib.hid (HF.out.next h9)
      clear h9 e9 b0 b1
      have b1 := HN.out.blk.cell (j := 1) rfl
      have f1 := HN.out.blk.free 1
      go_wp2
      go_roundw
      case rel => exact ⟨i + 1, by omega, hlt, Lib.hid (by have := HN.out.at (i + 1); simpa using this), Lib.hid (Onb.set HF9.out 1 _)⟩
      case measure =>
        have e1 := HP.out.blk.cell (j := 1) rfl
        have e2 := (HN.out.blk.set 1 (.int .i64 ((i : Int) + 1))).cell (j := 1) rfl
        rw [e1, e2]
        simp [intOf]; omega
    · obtain rfl : i = j := by omega
      by_cases hin : i < s.size
      · have i1 : (i : Int) < (s.size : Int) := by omega
        obtain ⟨c, hc⟩ : ∃ c, c = s[i] := ⟨_, rfl⟩
        have hq := HST.out hin
        have hcc : s[i] = c := hc.symm
        have t1 : ((c.toNat : Int) == 32) = false := by rw [hcc] at hq; unfold sp at hq; simp at hq ⊢; omega
        clear hc hq
        go_wp2
        refine wp_region_past (by kernel_rfl) (by kernel_rfl) ?_
        repeat (go_big_quiet_step (fail))
        refine wpQuiet_nil ?_
        intro _ hw'
        obtain ⟨s9, hw''⟩ := hw'
        subst hw''
        obtain ⟨w9, h9, e9⟩ : ∃ w9, Below wr.heap.size wr w9 ∧ w9 = s9.val := ⟨_, s9.h, rfl⟩
        rw [← e9]
        have HN := Lib.hid (HP.out.kept h9)
        have HF9 := Lib.hid (HF.out.next h9)
        clear h9 e9 b0 b1
        go_wp2
        refine end0 rfl rfl ⟨rfl, HN.out, HF9.out⟩
      · have i1 : ¬ (i : Int) < (s.size : Int) := by omega
        go_wp2
        refine wp_region_past (by kernel_rfl) (by kernel_rfl) ?_
        repeat (go_big_quiet_step (fail))
        refine wpQuiet_nil ?_
        intro _ hw'
        obtain ⟨s9, hw''⟩ := hw'
        subst hw''
        obtain ⟨w9, h9, e9⟩ : ∃ w9, Below wr.heap.size wr w9 ∧ w9 = s9.val := ⟨_, s9.h, rfl⟩
        rw [← e9]
        have HN := Lib.hid (HP.out.kept h9)
        have HF9 := Lib.hid (HF.out.next h9)
        clear h9 e9 b0 b1
        go_wp2
        refine end0 rfl rfl ⟨rfl, HN.out, HF9.out⟩
end Go.Proofs.YtdnoceancoclmaaGreatDoor.Ru

namespace Go.Proofs.YtdnoceancoclmaaGreatDoor.Ru

/-- parts lie ahead of their node -/
def Fine (L : List Nd) : Prop := ∀ (i : Nat) (n : Nd), L[i]? = some n → ∀ p ∈ parts n, 0 ≤ p ∧ p < (i : Int)
theorem told_fuel {L : List Nd} (hf : Fine L) : ∀ (F F' i : Nat), i < F → i < F' → toldP L F i = toldP L F' i
  | 0, _, i, h, _ => absurd h (by omega)
  | _ + 1, 0, i, _, h => absurd h (by omega)
  | F + 1, F' + 1, i, h, h' => by
    unfold toldP
    cases hi : L[i]? with
    | none => rfl
    | some n =>
      have hp := hf i n hi
      unfold parts at hp
      simp only
      by_cases h7 : n.k = 7
      · rw [if_pos h7] at hp
        have := hp n.a (by simp)
        rw [if_pos h7, if_pos h7, told_fuel hf F F' n.a.toNat (by omega) (by omega)]
      rw [if_neg h7, if_neg h7]
      rw [if_neg h7] at hp
      by_cases h8 : n.k = 8
      · rw [if_pos (.inl h8)] at hp
        have ha := hp n.a (by simp)
        have hb := hp n.b (by simp)
        rw [if_pos h8, if_pos h8, told_fuel hf F F' n.a.toNat (by omega) (by omega), told_fuel hf F F' n.b.toNat (by omega) (by omega)]
      rw [if_neg h8, if_neg h8]
      by_cases h9 : n.k = 9
      · rw [if_pos (.inr h9)] at hp
        have ha := hp n.a (by simp)
        have hb := hp n.b (by simp)
        rw [if_pos h9, if_pos h9, told_fuel hf F F' n.a.toNat (by omega) (by omega), told_fuel hf F F' n.b.toNat (by omega) (by omega)]
      rw [if_neg h9, if_neg h9]
/-- a node's text -/
def tl (L : List Nd) (i : Nat) : List UInt8 := toldP L (i + 1) i
theorem tl_eq {L : List Nd} (hf : Fine L) {i : Nat} {n : Nd} (hi : L[i]? = some n) : tl L i =
    if n.k = 7 then 33 :: par (decide (tightK (kindAt L n.a.toNat) < 3)) (tl L n.a.toNat)
    else if n.k = 8 then par (decide (tightK (kindAt L n.a.toNat) < 2)) (tl L n.a.toNat) ++ 32 :: 38 :: 32 :: par (decide (tightK (kindAt L n.b.toNat) < 3)) (tl L n.b.toNat)
    else if n.k = 9 then par (decide (tightK (kindAt L n.a.toNat) < 1)) (tl L n.a.toNat) ++ 32 :: 124 :: 32 :: par (decide (tightK (kindAt L n.b.toNat) < 2)) (tl L n.b.toNat)
    else ltx n.k n.nm n.vl n.x := by
  have hp := hf i n hi
  unfold parts at hp
  conv => lhs; unfold tl toldP
  rw [hi]
  simp only
  by_cases h7 : n.k = 7
  · rw [if_pos h7] at hp
    have := hp n.a (by simp)
    rw [if_pos h7, if_pos h7, told_fuel hf i (n.a.toNat + 1) n.a.toNat (by omega) (by omega)]
    rfl
  rw [if_neg h7, if_neg h7]
  rw [if_neg h7] at hp
  by_cases h8 : n.k = 8
  · rw [if_pos (.inl h8)] at hp
    have ha := hp n.a (by simp)
    have hb := hp n.b (by simp)
    rw [if_pos h8, if_pos h8, told_fuel hf i (n.a.toNat + 1) n.a.toNat (by omega) (by omega), told_fuel hf i (n.b.toNat + 1) n.b.toNat (by omega) (by omega)]
    rfl
  rw [if_neg h8, if_neg h8]
  by_cases h9 : n.k = 9
  · rw [if_pos (.inr h9)] at hp
    have ha := hp n.a (by simp)
    have hb := hp n.b (by simp)
    rw [if_pos h9, if_pos h9, told_fuel hf i (n.a.toNat + 1) n.a.toNat (by omega) (by omega), told_fuel hf i (n.b.toNat + 1) n.b.toNat (by omega) (by omega)]
    rfl
  rw [if_neg h9, if_neg h9]
theorem toldA_tl {L : List Nd} (hf : Fine L) (h : 1 ≤ L.length) : toldA L = tl L (L.length - 1) := told_fuel hf _ _ _ (by omega) (by omega)
theorem par_len (b : Bool) (s : List UInt8) : (par b s).length ≤ s.length + 2 := by
  cases b
  · rw [par_false]; omega
  · rw [par_true]; simp
/-- what a node's own text costs -/
def cost (n : Nd) : Nat := (ltx n.k n.nm n.vl n.x).length + 8
theorem tl_len {L : List Nd} (hf : Fine L) {i : Nat} {n : Nd} (hi : L[i]? = some n) : (tl L i).length ≤ cost n + ((parts n).map (fun p => (tl L p.toNat).length)).sum := by
  rw [tl_eq hf hi]
  unfold parts cost
  by_cases h7 : n.k = 7
  · rw [if_pos h7, if_pos h7]
    have := par_len (decide (tightK (kindAt L n.a.toNat) < 3)) (tl L n.a.toNat)
    simp only [List.length_cons, List.map_cons, List.map_nil, List.sum_cons, List.sum_nil]
    omega
  rw [if_neg h7, if_neg h7]
  by_cases h8 : n.k = 8
  · rw [if_pos h8, if_pos (.inl h8)]
    have h1 := par_len (decide (tightK (kindAt L n.a.toNat) < 2)) (tl L n.a.toNat)
    have h2 := par_len (decide (tightK (kindAt L n.b.toNat) < 3)) (tl L n.b.toNat)
    simp only [List.length_append, List.length_cons, List.map_cons, List.map_nil, List.sum_cons, List.sum_nil]
    omega
  rw [if_neg h8]
  by_cases h9 : n.k = 9
  · rw [if_pos h9, if_pos (.inr h9)]
    have h1 := par_len (decide (tightK (kindAt L n.a.toNat) < 1)) (tl L n.a.toNat)
    have h2 := par_len (decide (tightK (kindAt L n.b.toNat) < 2)) (tl L n.b.toNat)
    simp only [List.length_append, List.length_cons, List.map_cons, List.map_nil, List.sum_cons, List.sum_nil]
    omega
  rw [if_neg h9, if_neg (by rintro (h | h) <;> contradiction)]
  simp only [List.map_nil, List.sum_nil]
  omega
end Go.Proofs.YtdnoceancoclmaaGreatDoor.Ru

namespace Go.Proofs.YtdnoceancoclmaaGreatDoor.Ru

/-- a name of at most so many bytes; a word -/
def specM (m : Nat) (l : List UInt8) : Bool := decide (1 ≤ l.length) && decide (l.length ≤ m) && hd lo l && l.all nmc
def wrdB (l : List UInt8) : Bool := l.all wdc && decide (1 ≤ l.length) && decide (l.length ≤ 32)
def attrN (l : List UInt8) : Bool := specM 24 l && !(l == anyT)
theorem nameOk_of {l : List UInt8} (h : attrN l = true) : nameOk l := by
  unfold attrN specM at h
  simp only [Bool.and_eq_true, decide_eq_true_eq, List.all_eq_true, Bool.not_eq_true', beq_eq_false_iff_ne] at h
  exact ⟨h.1.1.1.2, h.1.1.2, h.1.2, h.2⟩
theorem attrN_of {l : List UInt8} (h : nameOk l) : attrN l = true := by
  obtain ⟨h1, h2, h3, h4⟩ := h
  have h5 : 1 ≤ l.length := by
    cases l with
    | nil => cases h2
    | cons c l => simp
  unfold attrN specM
  simp only [Bool.and_eq_true, decide_eq_true_eq, List.all_eq_true, Bool.not_eq_true', beq_eq_false_iff_ne]
  exact ⟨⟨⟨⟨h5, h1⟩, h2⟩, h3⟩, h4⟩
theorem wrdB_of {l : List UInt8} (h : wordOk l) : wrdB l = true := by
  obtain ⟨h1, h2, h3⟩ := h
  unfold wrdB
  simp only [Bool.and_eq_true, decide_eq_true_eq, List.all_eq_true]
  refine ⟨⟨h3, ?_⟩, h2⟩
  cases l with
  | nil => exact absurd rfl h1
  | cons c l => simp
/-- a node's own fields -/
def leafyB (n : Nd) : Bool :=
  if n.k = 1 then decide (n.a = -1 ∧ n.b = -1) && decide (n.nm = []) && decide (n.vl = []) && decide (n.x = 0)
  else if n.k = 2 ∨ n.k = 3 then decide (n.a = -1 ∧ n.b = -1) && attrN n.nm && wrdB n.vl && decide (n.x = 0)
  else if n.k = 4 ∨ n.k = 5 then decide (n.a = -1 ∧ n.b = -1) && attrN n.nm && decide (n.vl = []) && decide (0 ≤ n.x) && decide (n.x ≤ 999999999999)
  else if n.k = 6 then decide (n.a = -1 ∧ n.b = -1) && attrN n.nm && decide (n.vl = []) && decide (n.x = 0)
  else if n.k = 7 then decide (n.nm = []) && decide (n.vl = []) && decide (n.x = 0) && decide (n.b = -1)
  else if n.k = 8 ∨ n.k = 9 then decide (n.nm = []) && decide (n.vl = []) && decide (n.x = 0)
  else false
def nodeC (i : Nat) (n : Nd) : Bool := leafyB n && decide (-1 ≤ n.a) && decide (n.a < i) && decide (-1 ≤ n.b) && decide (n.b < i) && !(decide (7 ≤ n.k) && decide (n.a < 0)) && !(decide (8 ≤ n.k) && decide (n.b < 0))
/-- how many nodes a tree has -/
def sizF (L : List Nd) : Nat → Nat → Nat
  | 0, _ => 1
  | F + 1, i => match L[i]? with
    | none => 1
    | some n =>
      if 0 ≤ n.b ∧ 1 + (if 0 ≤ n.a then sizF L F n.a.toNat else 0) ≤ 64 then 1 + (if 0 ≤ n.a then sizF L F n.a.toNat else 0) + sizF L F n.b.toNat
      else 1 + (if 0 ≤ n.a then sizF L F n.a.toNat else 0)
def nodesC (L : List Nd) : Bool := (List.range L.length).all (fun i => match L[i]? with | some n => nodeC i n | none => true)
def siz (L : List Nd) (i : Nat) : Nat := sizF L (i + 1) i
def dcond (L : List Nd) : Bool := decide (1 ≤ L.length ∧ L.length ≤ 64) && nodesC L && decide (siz L (L.length - 1) = L.length)
def isOk (x : Except (Int × Int) (List Nd)) (L : List Nd) : Bool := match x with | .ok M => decide (M = L) | .error _ => false
def docChk (L : List Nd) : Int := if dcond L && isOk (parseP (tl L (L.length - 1))) L then 0 else 2
theorem nodesC_at {L : List Nd} (h : nodesC L = true) {i : Nat} {n : Nd} (hi : L[i]? = some n) : nodeC i n = true := by
  unfold nodesC at h
  have hlt : i < L.length := by
    rcases Nat.lt_or_ge i L.length with h' | h'
    · exact h'
    · rw [List.getElem?_eq_none h'] at hi; cases hi
  have := List.all_eq_true.1 h i (List.mem_range.2 hlt)
  rw [hi] at this
  exact this
theorem nodeC_fine {i : Nat} {n : Nd} (h : nodeC i n = true) : ∀ p ∈ parts n, 0 ≤ p ∧ p < (i : Int) := by
  unfold nodeC at h
  simp only [Bool.and_eq_true, decide_eq_true_eq, Bool.not_eq_true', Bool.and_eq_false_iff, decide_eq_false_iff_not] at h
  obtain ⟨⟨⟨⟨⟨⟨-, h1⟩, h2⟩, h3⟩, h4⟩, h5⟩, h6⟩ := h
  intro p hp
  unfold parts at hp
  split at hp
  · next h7 => simp only [List.mem_singleton] at hp; subst hp; omega
  · split at hp
    · next h8 => simp only [List.mem_cons, List.not_mem_nil, or_false] at hp; rcases hp with rfl | rfl <;> omega
    · cases hp
theorem nodesC_fine {L : List Nd} (h : nodesC L = true) : Fine L := fun i n hi p hp => nodeC_fine (nodesC_at h hi) p hp
/-- a tree's nodes may be -/
theorem leafy_lf {k x : Int} {nm vl : List UInt8} (h : leafOk k nm vl x) : leafyB ⟨k, nm, vl, x, -1, -1⟩ = true := by
  unfold leafyB
  rcases h with ⟨rfl, rfl, rfl, rfl⟩ | ⟨hk, h1, h2, rfl⟩ | ⟨hk, h1, rfl, h2, h3⟩ | ⟨rfl, h1, rfl, rfl⟩
  · rfl
  · rw [if_neg (by simp only; omega), if_pos hk]
    simp only [attrN_of h1, wrdB_of h2]; rfl
  · rw [if_neg (by simp only; omega), if_neg (by simp only; omega), if_pos hk]
    simp only [attrN_of h1, decide_eq_true h2, decide_eq_true h3]; rfl
  · rw [if_neg (by simp only; omega), if_neg (by simp only; omega), if_neg (by simp only; omega), if_pos rfl]
    simp only [attrN_of h1]; rfl
theorem nodeC_flat : ∀ (t : Tr) (b i : Nat) (n : Nd), t.ok → (t.flat b)[i]? = some n → nodeC (b + i) n = true := by
  intro t
  induction t with
  | lf k nm vl x =>
    intro b i n ho h
    have hk := leaf_kind ho
    have hn : n = ⟨k, nm, vl, x, -1, -1⟩ := by
      cases i with
      | zero => exact (Option.some.inj h).symm
      | succ i => simp [Tr.flat] at h
    subst hn
    unfold nodeC
    rw [leafy_lf ho]
    simp only [Bool.true_and, Bool.and_eq_true, decide_eq_true_eq, Bool.not_eq_true', Bool.and_eq_false_iff, decide_eq_false_iff_not]
    omega
  | no t ih =>
    intro b i n ho h
    have hp := t.size_pos
    have h' : (t.flat b ++ [(⟨7, [], [], 0, (b : Int) + t.size - 1, -1⟩ : Nd)])[i]? = some n := h
    by_cases hi : i < t.size
    · rw [List.getElem?_append_left (by rw [t.flat_len]; exact hi)] at h'
      exact ih b i n ho h'
    · rw [List.getElem?_append_right (by rw [t.flat_len]; omega), t.flat_len] at h'
      have e : i - t.size = 0 := by
        rcases Nat.eq_zero_or_pos (i - t.size) with e | e
        · exact e
        · rw [List.getElem?_eq_none (by simp only [List.length_cons, List.length_nil]; omega)] at h'; cases h'
      rw [e] at h'
      simp only [List.getElem?_cons_zero, Option.some.injEq] at h'
      subst h'
      unfold nodeC
      rw [show leafyB ⟨7, [], [], 0, (b : Int) + t.size - 1, -1⟩ = true from rfl]
      simp only [Bool.true_and, Bool.and_eq_true, decide_eq_true_eq, Bool.not_eq_true', Bool.and_eq_false_iff, decide_eq_false_iff_not]
      omega
  | an l r ihl ihr =>
    intro b i n ho h
    have hp1 := l.size_pos
    have hp2 := r.size_pos
    have h' : (l.flat b ++ r.flat (b + l.size) ++ [(⟨8, [], [], 0, (b : Int) + l.size - 1, (b : Int) + l.size + r.size - 1⟩ : Nd)])[i]? = some n := h
    by_cases hi : i < l.size
    · rw [List.append_assoc, List.getElem?_append_left (by rw [l.flat_len]; exact hi)] at h'
      exact ihl b i n ho.1 h'
    by_cases hj : i < l.size + r.size
    · rw [List.append_assoc, List.getElem?_append_right (by rw [l.flat_len]; omega), List.getElem?_append_left (by rw [l.flat_len, r.flat_len]; omega), l.flat_len] at h'
      have := ihr (b + l.size) (i - l.size) n ho.2 h'
      rw [show b + l.size + (i - l.size) = b + i by omega] at this
      exact this
    · rw [List.append_assoc, List.getElem?_append_right (by rw [l.flat_len]; omega), List.getElem?_append_right (by rw [l.flat_len, r.flat_len]; omega), l.flat_len, r.flat_len] at h'
      have e : i - l.size - r.size = 0 := by
        rcases Nat.eq_zero_or_pos (i - l.size - r.size) with e | e
        · exact e
        · rw [List.getElem?_eq_none (by simp only [List.length_cons, List.length_nil]; omega)] at h'; cases h'
      rw [e] at h'
      simp only [List.getElem?_cons_zero, Option.some.injEq] at h'
      subst h'
      unfold nodeC
      rw [show leafyB ⟨8, [], [], 0, (b : Int) + l.size - 1, (b : Int) + l.size + r.size - 1⟩ = true from rfl]
      simp only [Bool.true_and, Bool.and_eq_true, decide_eq_true_eq, Bool.not_eq_true', Bool.and_eq_false_iff, decide_eq_false_iff_not]
      omega
  | o l r ihl ihr =>
    intro b i n ho h
    have hp1 := l.size_pos
    have hp2 := r.size_pos
    have h' : (l.flat b ++ r.flat (b + l.size) ++ [(⟨9, [], [], 0, (b : Int) + l.size - 1, (b : Int) + l.size + r.size - 1⟩ : Nd)])[i]? = some n := h
    by_cases hi : i < l.size
    · rw [List.append_assoc, List.getElem?_append_left (by rw [l.flat_len]; exact hi)] at h'
      exact ihl b i n ho.1 h'
    by_cases hj : i < l.size + r.size
    · rw [List.append_assoc, List.getElem?_append_right (by rw [l.flat_len]; omega), List.getElem?_append_left (by rw [l.flat_len, r.flat_len]; omega), l.flat_len] at h'
      have := ihr (b + l.size) (i - l.size) n ho.2 h'
      rw [show b + l.size + (i - l.size) = b + i by omega] at this
      exact this
    · rw [List.append_assoc, List.getElem?_append_right (by rw [l.flat_len]; omega), List.getElem?_append_right (by rw [l.flat_len, r.flat_len]; omega), l.flat_len, r.flat_len] at h'
      have e : i - l.size - r.size = 0 := by
        rcases Nat.eq_zero_or_pos (i - l.size - r.size) with e | e
        · exact e
        · rw [List.getElem?_eq_none (by simp only [List.length_cons, List.length_nil]; omega)] at h'; cases h'
      rw [e] at h'
      simp only [List.getElem?_cons_zero, Option.some.injEq] at h'
      subst h'
      unfold nodeC
      rw [show leafyB ⟨9, [], [], 0, (b : Int) + l.size - 1, (b : Int) + l.size + r.size - 1⟩ = true from rfl]
      simp only [Bool.true_and, Bool.and_eq_true, decide_eq_true_eq, Bool.not_eq_true', Bool.and_eq_false_iff, decide_eq_false_iff_not]
      omega
theorem siz_flat : ∀ (t : Tr) (X Y : List Nd) (F : Nat), t.ok → t.size ≤ F → t.size ≤ 64 → sizF (X ++ t.flat X.length ++ Y) F (X.length + t.size - 1) = t.size := by
  intro t
  induction t with
  | lf k nm vl x =>
    intro X Y F ho hF _
    have hs : (Tr.lf k nm vl x).size = 1 := rfl
    obtain ⟨G, rfl⟩ : ∃ G, F = G + 1 := ⟨F - 1, by omega⟩
    unfold sizF
    rw [at_root]
    rfl
  | no t ih =>
    intro X Y F ho hF h64
    have hsz : (Tr.no t).size = t.size + 1 := rfl
    have hp := t.size_pos
    obtain ⟨G, rfl⟩ : ∃ G, F = G + 1 := ⟨F - 1, by omega⟩
    unfold sizF
    rw [at_root]
    have hL : X ++ (Tr.no t).flat X.length ++ Y = X ++ t.flat X.length ++ ((Tr.no t).root X.length :: Y) := by
      show X ++ (t.flat X.length ++ [_]) ++ Y = _
      simp only [List.append_assoc, List.singleton_append]
      rfl
    have hi : ((Tr.no t).root X.length).a.toNat = X.length + t.size - 1 := by
      show ((X.length : Int) + t.size - 1).toNat = _
      omega
    have ha : 0 ≤ ((Tr.no t).root X.length).a := by show 0 ≤ (X.length : Int) + t.size - 1; omega
    have hb : ¬ (0 ≤ ((Tr.no t).root X.length).b) := by show ¬ (0 : Int) ≤ -1; omega
    simp only [if_pos ha, hi, hL, ih X _ G ho (by omega) (by omega)]
    rw [if_neg (fun h => hb h.1)]
    omega
  | an l r ihl ihr =>
    intro X Y F ho hF h64
    have hsz : (Tr.an l r).size = l.size + r.size + 1 := rfl
    have hp1 := l.size_pos
    have hp2 := r.size_pos
    obtain ⟨G, rfl⟩ : ∃ G, F = G + 1 := ⟨F - 1, by omega⟩
    unfold sizF
    rw [at_root]
    have hL1 : X ++ (Tr.an l r).flat X.length ++ Y = X ++ l.flat X.length ++ (r.flat (X.length + l.size) ++ (Tr.an l r).root X.length :: Y) := by
      show X ++ (l.flat X.length ++ r.flat (X.length + l.size) ++ [_]) ++ Y = _
      simp only [List.append_assoc, List.singleton_append]
      rfl
    have hXl : (X ++ l.flat X.length).length = X.length + l.size := by rw [List.length_append, l.flat_len]
    have hL2 : X ++ (Tr.an l r).flat X.length ++ Y = (X ++ l.flat X.length) ++ r.flat (X ++ l.flat X.length).length ++ ((Tr.an l r).root X.length :: Y) := by
      rw [hL1, hXl]
      simp only [List.append_assoc]
    have h1 : ((Tr.an l r).root X.length).a.toNat = X.length + l.size - 1 := by
      show ((X.length : Int) + l.size - 1).toNat = _
      omega
    have h2 : ((Tr.an l r).root X.length).b.toNat = (X ++ l.flat X.length).length + r.size - 1 := by
      show ((X.length : Int) + l.size + r.size - 1).toNat = _
      omega
    have a1 : sizF (X ++ (Tr.an l r).flat X.length ++ Y) G ((Tr.an l r).root X.length).a.toNat = l.size := by rw [h1, hL1]; exact ihl X _ G ho.1 (by omega) (by omega)
    have a2 : sizF (X ++ (Tr.an l r).flat X.length ++ Y) G ((Tr.an l r).root X.length).b.toNat = r.size := by rw [h2, hL2]; exact ihr _ _ G ho.2 (by omega) (by omega)
    have ha : 0 ≤ ((Tr.an l r).root X.length).a := by show 0 ≤ (X.length : Int) + l.size - 1; omega
    have hb : 0 ≤ ((Tr.an l r).root X.length).b := by show 0 ≤ (X.length : Int) + l.size + r.size - 1; omega
    simp only [if_pos ha, a1, a2]
    rw [if_pos ⟨hb, by omega⟩]
    omega
  | o l r ihl ihr =>
    intro X Y F ho hF h64
    have hsz : (Tr.o l r).size = l.size + r.size + 1 := rfl
    have hp1 := l.size_pos
    have hp2 := r.size_pos
    obtain ⟨G, rfl⟩ : ∃ G, F = G + 1 := ⟨F - 1, by omega⟩
    unfold sizF
    rw [at_root]
    have hL1 : X ++ (Tr.o l r).flat X.length ++ Y = X ++ l.flat X.length ++ (r.flat (X.length + l.size) ++ (Tr.o l r).root X.length :: Y) := by
      show X ++ (l.flat X.length ++ r.flat (X.length + l.size) ++ [_]) ++ Y = _
      simp only [List.append_assoc, List.singleton_append]
      rfl
    have hXl : (X ++ l.flat X.length).length = X.length + l.size := by rw [List.length_append, l.flat_len]
    have hL2 : X ++ (Tr.o l r).flat X.length ++ Y = (X ++ l.flat X.length) ++ r.flat (X ++ l.flat X.length).length ++ ((Tr.o l r).root X.length :: Y) := by
      rw [hL1, hXl]
      simp only [List.append_assoc]
    have h1 : ((Tr.o l r).root X.length).a.toNat = X.length + l.size - 1 := by
      show ((X.length : Int) + l.size - 1).toNat = _
      omega
    have h2 : ((Tr.o l r).root X.length).b.toNat = (X ++ l.flat X.length).length + r.size - 1 := by
      show ((X.length : Int) + l.size + r.size - 1).toNat = _
      omega
    have a1 : sizF (X ++ (Tr.o l r).flat X.length ++ Y) G ((Tr.o l r).root X.length).a.toNat = l.size := by rw [h1, hL1]; exact ihl X _ G ho.1 (by omega) (by omega)
    have a2 : sizF (X ++ (Tr.o l r).flat X.length ++ Y) G ((Tr.o l r).root X.length).b.toNat = r.size := by rw [h2, hL2]; exact ihr _ _ G ho.2 (by omega) (by omega)
    have ha : 0 ≤ ((Tr.o l r).root X.length).a := by show 0 ≤ (X.length : Int) + l.size - 1; omega
    have hb : 0 ≤ ((Tr.o l r).root X.length).b := by show 0 ≤ (X.length : Int) + l.size + r.size - 1; omega
    simp only [if_pos ha, a1, a2]
    rw [if_pos ⟨hb, by omega⟩]
    omega
theorem dcond_flat {t : Tr} (ho : t.ok) (hs : t.size ≤ 64) : dcond (t.flat 0) = true := by
  have hl := t.flat_len 0
  have hp := t.size_pos
  unfold dcond
  simp only [Bool.and_eq_true, decide_eq_true_eq]
  refine ⟨⟨by omega, ?_⟩, ?_⟩
  · unfold nodesC
    rw [List.all_eq_true]
    intro i hi
    have hlt := List.mem_range.1 hi
    rw [List.getElem?_eq_getElem hlt]
    have := nodeC_flat t 0 i _ ho (List.getElem?_eq_getElem hlt)
    rwa [Nat.zero_add] at this
  · have := siz_flat t [] [] t.size ho (Nat.le_refl _) hs
    simp only [List.nil_append, List.append_nil, List.length_nil, Nat.zero_add] at this
    unfold siz
    rw [hl, show t.size - 1 + 1 = t.size by omega]
    exact this
/-- the document judges a rule as the program does -/
theorem docChk_eq (L : List Nd) : docChk L = checkP L := by
  unfold docChk
  by_cases hp : parseP (toldA L) = .ok L
  · obtain ⟨t, ho, hd, hs, hL, hlen⟩ := parseP_tree hp
    have hdc : dcond L = true := by rw [hL]; exact dcond_flat ho hs
    have hc := (check_parse hp).2.1
    have hf : Fine L := by
      unfold dcond at hdc
      simp only [Bool.and_eq_true] at hdc
      exact nodesC_fine hdc.1.2
    have h1 : 1 ≤ L.length := by
      unfold dcond at hdc
      simp only [Bool.and_eq_true, decide_eq_true_eq] at hdc
      exact hdc.1.1.1
    rw [← toldA_tl hf h1, hp, hdc, hc]
    unfold isOk
    simp
  · have h2 : checkP L = 2 := by
      unfold checkP
      split
      · split
        · next M hM =>
          rw [if_neg]
          rintro rfl
          exact hp hM
        · rfl
      · rfl
    rw [h2]
    cases hdc : dcond L
    · rfl
    · have hdc' := hdc
      unfold dcond at hdc'
      simp only [Bool.and_eq_true, decide_eq_true_eq] at hdc'
      rw [← toldA_tl (nodesC_fine hdc'.1.2) hdc'.1.1.1]
      have : isOk (parseP (toldA L)) L = false := by
        unfold isOk
        split
        · next M hM =>
          rw [decide_eq_false_iff_not]
          rintro rfl
          exact hp hM
        · rfl
      rw [this]
      rfl
end Go.Proofs.YtdnoceancoclmaaGreatDoor.Ru

namespace Go.Proofs.YtdnoceancoclmaaGreatDoor.Ru

/-- lost: the program's reading has failed, or stands at a word's byte (nothing can go on from there) -/
def Dead (R : PR) : Prop := match R with
  | .error _ => True
  | .ok q => hd wdc q.2.r = true
theorem wdc_blk {r : List UInt8} (h : hd wdc r = true) : blk r = r := by
  cases r with
  | nil => cases h
  | cons c t => exact blk_head (wdc_sp h)
theorem strip_wdc {sg : UInt8} {p r : List UInt8} (hs : wdc sg = false) (h : hd wdc r = true) : strip (sg :: p) r = none := by
  cases r with
  | nil => cases h
  | cons c t =>
    refine strip_ne (fun e => ?_)
    subst e
    have : wdc sg = true := h
    rw [hs] at this
    cases this
theorem dead_loop {N : Nat} {sg : UInt8} {kd : Int} {nx : Ps → PR} (hs : wdc sg = false) (K : Nat) (left : Int) {st : Ps} (h : hd wdc st.r = true) : Dead (loopP N sg kd nx K left st) := by
  cases K with
  | zero => trivial
  | succ K =>
    unfold loopP
    rw [wdc_blk h, strip_wdc hs h]
    exact h
theorem dead_pairs {N : Nat} {sg : UInt8} {kd : Int} {nx : Ps → PR} (hs : wdc sg = false) {st : Ps} (h : Dead (nx st)) : Dead (pairsP N sg kd nx st) := by
  unfold pairsP
  cases hx : nx st with
  | error e => trivial
  | ok q => rw [hx] at h; exact dead_loop hs _ _ h
/-- the bytes of a word that stand first -/
def runW (r : List UInt8) : List UInt8 := r.takeWhile wdc
theorem runW_len (r : List UInt8) : (runW r).length ≤ r.length := (List.takeWhile_sublist wdc).length_le
theorem runW_app (r : List UInt8) : runW r ++ r.drop (runW r).length = r := by
  induction r with
  | nil => rfl
  | cons c r ih =>
    unfold runW at *
    rw [List.takeWhile_cons]
    cases hc : wdc c
    · rfl
    · simp only [if_true, List.length_cons, List.drop_succ_cons, List.cons_append]
      rw [ih]
theorem runW_all (r : List UInt8) : ∀ c ∈ runW r, wdc c = true := fun c hc => List.all_eq_true.1 (List.all_takeWhile (p := wdc) (l := r)) c hc
theorem runW_end : ∀ r : List UInt8, hd wdc (r.drop (runW r).length) = false
  | [] => rfl
  | c :: r => by
    have h := runW_end r
    unfold runW at *
    rw [List.takeWhile_cons]
    cases hc : wdc c
    · exact hc
    · simp only [if_true, List.length_cons, List.drop_succ_cons]
      exact h
theorem runW_hd : ∀ (r : List UInt8) (k : Nat), k < (runW r).length → hd wdc (r.drop k) = true
  | [], k, h => absurd h (by simp [runW])
  | c :: r, k, h => by
    unfold runW at h
    rw [List.takeWhile_cons] at h
    cases hc : wdc c
    · rw [hc] at h; simp at h
    · rw [hc] at h
      simp only [if_true, List.length_cons] at h
      cases k with
      | zero => exact hc
      | succ k => exact runW_hd r k (by unfold runW; omega)
theorem run32 (r : List UInt8) (h : (runW r).length ≤ 32) : run 32 wdc r = runW r := by
  have h1 := run_eq (p := wdc) (m := 32) (a := runW r) (b := r.drop (runW r).length) (runW_all r) h (runW_end r)
  rwa [runW_app] at h1
theorem tw_all {p : UInt8 → Bool} {a : List UInt8} (h : ∀ c ∈ a, p c = true) : a.takeWhile p = a := by
  have := List.takeWhile_append_of_pos (p := p) (l₁ := a) (l₂ := []) h
  simpa using this
theorem run_ge {m : Nat} {p : UInt8 → Bool} {a b : List UInt8} (ha : ∀ c ∈ a, p c = true) (hm : a.length ≤ m) : a.length ≤ (run m p (a ++ b)).length := by
  unfold run
  rw [List.take_append, List.take_of_length_le hm, List.takeWhile_append_of_pos ha, List.length_append]
  omega
theorem run_more (m : Nat) (p : UInt8 → Bool) : ∀ (a b : List UInt8), (∀ c ∈ a, p c = true) → m ≤ a.length → run m p (a ++ b) = a.take m := by
  intro a b ha hm
  unfold run
  rw [List.take_append_of_le_length hm]
  exact tw_all (fun c hc => ha c (List.mem_of_mem_take hc))
theorem wdE_no {N n : Nat} {L : List Nd} {nm : List UInt8} {k : Int} {r : List UInt8} (h : ¬ (1 ≤ (runW (blk r)).length ∧ (runW (blk r)).length ≤ 32)) : Dead (wdE N n L nm k r) := by
  unfold wdE
  by_cases h0 : (runW (blk r)).length = 0
  · have h1 : runW (blk r) = [] := List.length_eq_zero_iff.1 h0
    rw [run32 _ (by omega), h1, if_pos rfl]
    trivial
  · have hm : 32 ≤ (runW (blk r)).length := by omega
    have h1 : run 32 wdc (blk r) = (runW (blk r)).take 32 := by
      have := run_more 32 wdc (runW (blk r)) ((blk r).drop (runW (blk r)).length) (runW_all _) hm
      rwa [runW_app] at this
    have h2 : ((runW (blk r)).take 32).length = 32 := by rw [List.length_take]; omega
    rw [h1, if_neg (fun e => by rw [e] at h2; cases h2)]
    show hd wdc ((blk r).drop ((runW (blk r)).take 32).length) = true
    rw [h2]
    exact runW_hd _ _ (by omega)
theorem wdE_yes {N n : Nat} {L : List Nd} {nm : List UInt8} {k : Int} {r : List UInt8} (h1 : 1 ≤ (runW (blk r)).length) (h2 : (runW (blk r)).length ≤ 32) :
    wdE N n L nm k r = .ok (put n L ((blk r).drop (runW (blk r)).length) ⟨k, nm, runW (blk r), 0, -1, -1⟩) := by
  unfold wdE
  rw [run32 _ h2, if_neg (fun e => by rw [e] at h1; simp at h1)]
theorem dgE_yes {N n : Nat} {L : List Nd} {nm : List UInt8} {k : Int} {r : List UInt8} (ha : (runW (blk r)).all dgt = true) (h1 : 1 ≤ (runW (blk r)).length) (h2 : (runW (blk r)).length ≤ 12) :
    dgE N n L nm k r = .ok (put n L ((blk r).drop (runW (blk r)).length) ⟨k, nm, [], digV (runW (blk r)), -1, -1⟩) := by
  have hr : run 12 dgt (blk r) = runW (blk r) := by
    have := run_eq (p := dgt) (m := 12) (a := runW (blk r)) (b := (blk r).drop (runW (blk r)).length) (fun c hc => List.all_eq_true.1 ha c hc) h2 (hd_mono (fun c => dgt_wdc) (runW_end _))
    rwa [runW_app] at this
  unfold dgE
  rw [hr, if_neg (fun e => by rw [e] at h1; simp at h1)]
theorem run12_short (r : List UInt8) (h : ¬ ((runW r).all dgt = true ∧ (runW r).length ≤ 12)) : (run 12 dgt r).length < (runW r).length := by
  obtain ⟨k, hk, hd⟩ : ∃ k, k < (runW r).length ∧ (run 12 dgt r).length ≤ k := by
    by_cases h12 : (runW r).length ≤ 12
    · have hn : ¬ (runW r).all dgt = true := fun e => h ⟨e, h12⟩
      have hlt : (run 12 dgt r).length < (runW r).length := by
        rcases Nat.lt_or_ge (run 12 dgt r).length (runW r).length with g | g
        · exact g
        · exfalso
          apply hn
          rw [List.all_eq_true]
          intro c hc
          obtain ⟨i, hi, rfl⟩ := List.getElem_of_mem hc
          have hp1 : runW r <+: r := List.takeWhile_prefix wdc
          have hp2 : run 12 dgt r <+: r := (List.takeWhile_prefix dgt).trans (List.take_prefix 12 r)
          have e1 : (runW r)[i] = r[i]'(by have := runW_len r; omega) := hp1.getElem hi
          have e2 : (run 12 dgt r)[i]'(by omega) = r[i]'(by have := runW_len r; omega) := hp2.getElem (by omega)
          rw [e1, ← e2]
          exact run_all 12 dgt r _ (List.getElem_mem _)
      exact ⟨_, hlt, Nat.le_refl _⟩
    · exact ⟨12, by omega, (run_len 12 dgt r).1⟩
  omega
theorem dgE_no {N n : Nat} {L : List Nd} {nm : List UInt8} {k : Int} {r : List UInt8} (h : ¬ ((runW (blk r)).all dgt = true ∧ 1 ≤ (runW (blk r)).length ∧ (runW (blk r)).length ≤ 12)) : Dead (dgE N n L nm k r) := by
  unfold dgE
  by_cases h0 : run 12 dgt (blk r) = []
  · rw [if_pos h0]; trivial
  · rw [if_neg h0]
    show hd wdc ((blk r).drop (run 12 dgt (blk r)).length) = true
    refine runW_hd _ _ (run12_short _ (fun g => h ⟨g.1, ?_, g.2⟩))
    rcases Nat.lt_or_ge 0 (runW (blk r)).length with g2 | g2
    · exact g2
    · exfalso
      apply h0
      have e : runW (blk r) = [] := List.length_eq_zero_iff.1 (by omega)
      have h1 := runW_end (blk r)
      rw [e] at h1
      have h2 := run_eq (p := dgt) (m := 12) (a := []) (b := blk r) (fun c hc => by cases hc) (by simp) (hd_mono (fun c => dgt_wdc) h1)
      exact h2
/-! the sign behind a name -/
section
variable {N n : Nat} {L : List Nd} {nm r : List UInt8}
theorem opP_unlike : opP N n L nm (33 :: 61 :: r) = wdE N n L nm 3 r := by unfold opP; rfl
theorem opP_least : opP N n L nm (62 :: 61 :: r) = dgE N n L nm 4 r := by
  unfold opP
  rw [strip_ne (by decide)]
  rfl
theorem opP_most : opP N n L nm (60 :: 61 :: r) = dgE N n L nm 5 r := by
  unfold opP
  rw [strip_ne (by decide), strip_ne (by decide)]
  rfl
theorem opP_equal : opP N n L nm (61 :: r) = wdE N n L nm 2 r := by
  unfold opP
  rw [strip_ne (by decide), strip_ne (by decide), strip_ne (by decide), strip_cons]
theorem strip2_no {c : UInt8} (h : hd (· == 61) r = false) : strip [c, 61] (c :: r) = none := by
  unfold strip
  rw [if_neg]
  cases r with
  | nil => simp
  | cons d r =>
    have : (d == 61) = false := h
    simp only [List.isPrefixOf_cons_cons, Bool.and_eq_true, beq_iff_eq, not_and]
    intro _ e
    rw [← e] at this
    simp at this
theorem opP_bad {c : UInt8} (hc : c = 33 ∨ c = 62 ∨ c = 60) (h : hd (· == 61) r = false) : Dead (opP N n L nm (c :: r)) := by
  unfold opP
  rcases hc with rfl | rfl | rfl
  · rw [strip2_no h, strip_ne (by decide), strip_ne (by decide), strip_ne (by decide), strip_cons]; trivial
  · rw [strip_ne (by decide), strip2_no h, strip_ne (by decide), strip_ne (by decide), strip_ne (by decide), strip_cons]; trivial
  · rw [strip_ne (by decide), strip_ne (by decide), strip2_no h, strip_ne (by decide), strip_ne (by decide), strip_ne (by decide), strip_cons]; trivial
theorem opP_nil : opP N n L nm [] = .ok (put n L [] ⟨6, nm, [], 0, -1, -1⟩) := rfl
theorem opP_there {c : UInt8} (h1 : c ≠ 33) (h2 : c ≠ 62) (h3 : c ≠ 60) (h4 : c ≠ 61) : opP N n L nm (c :: r) = .ok (put n L (c :: r) ⟨6, nm, [], 0, -1, -1⟩) := by
  unfold opP
  rw [strip_ne (Ne.symm h1), strip_ne (Ne.symm h2), strip_ne (Ne.symm h3), strip_ne (Ne.symm h4), strip_ne (Ne.symm h1), strip_ne (Ne.symm h2), strip_ne (Ne.symm h3)]
end
/-! names -/
/-- the name that is read: as far as its bytes go -/
def nmR (r : List UInt8) : List UInt8 := if hd lo r = true then run 24 nmc r else []
theorem dlf_bad {N : Nat} {st : Ps} (h : nmR st.r = [] ∨ hd wdc (st.r.drop (nmR st.r).length) = true) : Dead (leafP N st) := by
  unfold leafP
  by_cases hl : hd lo st.r = false
  · rw [if_pos hl]; trivial
  · have hl' : hd lo st.r = true := by simpa using hl
    unfold nmR at h
    rw [if_pos hl'] at h
    have hne : run 24 nmc st.r ≠ [] := by
      intro e
      have := (run_nm hl').2.1
      rw [e] at this
      cases this
    rcases h with h | h
    · exact absurd h hne
    · rw [if_neg hl, if_neg (fun g => by rw [g.2] at h; cases h), if_pos h]; trivial
theorem dlf_long {N : Nat} {st : Ps} (h : 64 < st.n + 1) (h0 : nmR st.r ≠ []) (h1 : hd wdc (st.r.drop (nmR st.r).length) = false) : Dead (leafP N st) := by
  have hl' : hd lo st.r = true := by
    cases hq : hd lo st.r
    · unfold nmR at h0; rw [hq] at h0; exact absurd rfl h0
    · rfl
  unfold nmR at h1
  rw [if_pos hl'] at h1
  unfold leafP
  rw [if_neg (by rw [hl']; decide)]
  split
  · first | trivial | (rw [if_pos h]; trivial)
  · first | (rw [if_neg (by rw [h1]; decide), if_pos h]; trivial) | (rw [if_neg (by rw [h1]; decide)]; trivial) | trivial
theorem dlf_any {N : Nat} {st : Ps} (h : st.n + 1 ≤ 64) (h0 : nmR st.r = anyT) (h1 : hd wdc (st.r.drop (nmR st.r).length) = false) : leafP N st = .ok (put (st.n + 1) st.L (st.r.drop (nmR st.r).length) ⟨1, [], [], 0, -1, -1⟩) := by
  have hl' : hd lo st.r = true := by
    cases hq : hd lo st.r
    · unfold nmR at h0; rw [hq] at h0; cases h0
    · rfl
  have e : nmR st.r = run 24 nmc st.r := by unfold nmR; rw [if_pos hl']
  rw [e] at h0 h1 ⊢
  unfold leafP
  rw [if_neg (by rw [hl']; decide), if_pos ⟨h0, h1⟩, if_neg (by omega)]
theorem dlf_op {N : Nat} {st : Ps} (h : st.n + 1 ≤ 64) (h0 : nmR st.r ≠ []) (ha : nmR st.r ≠ anyT) (h1 : hd wdc (st.r.drop (nmR st.r).length) = false) : leafP N st = opP N (st.n + 1) st.L (nmR st.r) (blk (st.r.drop (nmR st.r).length)) := by
  have hl' : hd lo st.r = true := by
    cases hq : hd lo st.r
    · unfold nmR at h0; rw [hq] at h0; exact absurd rfl h0
    · rfl
  have e : nmR st.r = run 24 nmc st.r := by unfold nmR; rw [if_pos hl']
  rw [e] at h0 h1 ha ⊢
  unfold leafP
  rw [if_neg (by rw [hl']; decide), if_neg (fun g => ha g.1), if_neg (by rw [h1]; decide), if_neg (by omega)]
/-- a prefix of what is read as a name is one; one byte more is none -/
theorem nmR_pre {r : List UInt8} {k : Nat} (hk : k < (nmR r).length) : specM 24 (r.take (k + 1)) = true := by
  unfold nmR at hk
  split at hk
  · next hl =>
    obtain ⟨h1, h2, h3⟩ := run_nm hl
    have hp : run 24 nmc r <+: r := (List.takeWhile_prefix nmc).trans (List.take_prefix 24 r)
    have e : r.take (k + 1) = (run 24 nmc r).take (k + 1) := by
      obtain ⟨t, ht⟩ := hp
      conv => lhs; rw [← ht]
      rw [List.take_append_of_le_length (by omega)]
    rw [e]
    have hle : ((run 24 nmc r).take (k + 1)).length = k + 1 := by rw [List.length_take]; omega
    unfold specM
    simp only [Bool.and_eq_true, decide_eq_true_eq, List.all_eq_true]
    refine ⟨⟨⟨by omega, by omega⟩, ?_⟩, fun c hc => h3 c (List.mem_of_mem_take hc)⟩
    cases hr : run 24 nmc r with
    | nil => rw [hr] at hk; simp at hk
    | cons c t => rw [hr] at h2; exact h2
  · simp at hk
theorem nmR_more {r : List UInt8} (h : (nmR r).length < r.length) : specM 24 (r.take ((nmR r).length + 1)) = false := by
  cases hs : specM 24 (r.take ((nmR r).length + 1))
  · rfl
  · exfalso
    unfold specM at hs
    simp only [Bool.and_eq_true, decide_eq_true_eq, List.all_eq_true] at hs
    obtain ⟨⟨⟨h1, h2⟩, h3⟩, h4⟩ := hs
    have hle : (r.take ((nmR r).length + 1)).length = (nmR r).length + 1 := by rw [List.length_take]; omega
    have hl : hd lo r = true := by
      cases r with
      | nil => simp at h
      | cons c t => rw [List.take_succ_cons] at h3; exact h3
    have e : nmR r = run 24 nmc r := by unfold nmR; rw [if_pos hl]
    rw [e] at h1 h2 h3 h4 hle h
    have h5 := run_ge (b := r.drop ((run 24 nmc r).length + 1)) h4 h2
    rw [List.take_append_drop, hle] at h5
    omega
theorem nmR_len (r : List UInt8) : (nmR r).length ≤ 24 ∧ (nmR r).length ≤ r.length := by
  unfold nmR
  split
  · exact ⟨(run_len 24 nmc r).1, (run_len 24 nmc r).2⟩
  · simp
theorem nmR_take (r : List UInt8) : r.take (nmR r).length = nmR r := by
  unfold nmR
  split
  · have hp : run 24 nmc r <+: r := (List.takeWhile_prefix nmc).trans (List.take_prefix 24 r)
    exact (List.prefix_iff_eq_take.1 hp).symm
  · simp
end Go.Proofs.YtdnoceancoclmaaGreatDoor.Ru

namespace Go.Proofs.YtdnoceancoclmaaGreatDoor
open Go.RowKit Go

section
variable {P : Program}
/-! A stretch of operations that are not wanted, in between. -/
end
end Go.Proofs.YtdnoceancoclmaaGreatDoor

namespace Go.Proofs.YtdnoceancoclmaaGreatDoor
open Go.RowKit Go

section
variable {P : Program}
theorem lastQ_start {M : List Oper} {o : Oper} {Q : Exit → Act → World → Prop} {a : Act} {w : World} (h : wpList P (M ++ [o]).toArray Q [o] a w) : popQ P (M ++ [o]).toArray Q M.length .normal a w := by
  have g1 : (M ++ [o]).toArray[M.length]? = some o := by simp
  show wpOp P (M ++ [o]).toArray Q M.length (fun a' w' => Q .normal a' w') a w
  unfold wpOp
  rw [g1]
  exact h
/-- what is asked behind the front -/
def LastQ (P : Program) (L M : List Oper) (Q : Exit → Act → World → Prop) : Exit → Act → World → Prop := popQ P L.toArray Q M.length
theorem LastQ.start {L M : List Oper} {o : Oper} {Q : Exit → Act → World → Prop} {a : Act} {w : World} (hL : cut1 L = some (M, o)) (h : wpList P L.toArray Q [o] a w) : LastQ P L M Q .normal a w := by
  have hL' := cut1_spec hL
  subst hL'
  exact lastQ_start h
theorem wp_region_lastH {id : Nat} {Q : Exit → Act → World → Prop} {a : Act} {w : World} {L M : List Oper} {o : Oper} (S : World → Prop) (n : Nat) (hL : cut1 L = some (M, o)) (hMn : M.length = n) (hm : P.follows .mixedOrders = true) (hp : popB L.toArray = true) (hS : S w.drew)
    (h : S w.drew → wpAnyH P .any M.toArray (LastQ P L M Q) S n (Array.replicate n false) a w.drew) : (Code.region id L.toArray true).wp P Q a w := by
  have hL' := cut1_spec hL
  subst hL'
  subst hMn
  refine wp_region_pop (S := S) hm hp ?_
  have hn : (M ++ [o]).toArray.size - 1 = M.length := by simp
  have hpop : (M ++ [o]).toArray.pop = M.toArray := by simp
  rw [hn, hpop]
  exact h hS
end
end Go.Proofs.YtdnoceancoclmaaGreatDoor

namespace Go.Proofs.YtdnoceancoclmaaGreatDoor.Ru
open Go.RowKit Go.Proofs.YtdnoceancoclmaaGreatDoor

theorem info_nd : (Tryz.prog.info? 52).map (fun i => (i.zero, i.size, i.bytes)) = some (some (.agg #[.int .i64 0, .string ⟨#[]⟩, .string ⟨#[]⟩, .int .i64 0, .int .i64 0, .int .i64 0]), 6, 64) := by kernel_rfl
/-- behind a node that was put in -/
def NodeS (base : Nat) (w w' : World) (b : Nat) (s : ByteArray) (k : Nat) (d n : Int) (v : Value) (L : List Nd) : Prop :=
  ∃ v', Prs base w' b s k d n v' L 0 0 ∧ Frp (fun j => j = b ∨ v.ownBlock = some j) w w' ∧ ∀ q, v'.ownBlock = some q → v.ownBlock = some q ∨ w.heap.size ≤ q

set_option maxRecDepth 100000 in
set_option maxHeartbeats 1000000 in
theorem node_bad (base b : Nat) (s : ByteArray) (k : Nat) (d n : Int) (v : Value) (L : List Nd) (e a : Int) (x : Nd) (w : World) (h : Prs base w b s k d n v L e a) (he : e ≠ 0) :
    Calls Tryz.prog 80 #[ptr b, ndV x] w fun r w' => r = .returned (.int .i64 (-1)) ∧ Prs base w' b s k d n v L e a ∧ Onb b w w' := by
  obtain ⟨w1, hw1⟩ : ∃ w1, w1 = w.alloc (.cells #[.int .i64 x.k, .string (bs x.nm), .string (bs x.vl), .int .i64 x.x, .int .i64 x.a, .int .i64 x.b] 52) := ⟨_, rfl⟩
  obtain ⟨B, hB⟩ : ∃ B, B = w.heap.size := ⟨_, rfl⟩
  have hbl : Below w.heap.size w w1 := by rw [hw1]; exact below_alloc w _
  have H1 := Lib.hid (h.kept hbl)
  have HO1 : Hid (Onb b w w1) := Lib.hid (Frp.of_below hbl _)
  have c5 := H1.out.c5
  have c6 := H1.out.c6
  have t1 : (e == 0) = false := by simpa using he
  clear h hbl he
  go_enter Tryz.func80, Tryz.ntmps80
  go_upto_region 1 with fail
  rw [← hw1, ← hB]
  clear hw1 hB
  go_wp2
  go_ret
  exact ⟨rfl, H1.out, HO1.out⟩

set_option maxRecDepth 100000 in
set_option maxHeartbeats 2000000 in
theorem node_ok (base b : Nat) (s : ByteArray) (k : Nat) (d n : Int) (v : Value) (L : List Nd) (x : Nd) (w : World) (h : Prs base w b s k d n v L 0 0) (hl : L.length ≤ 1000) (hbase : base ≤ w.heap.size) :
    Calls Tryz.prog 80 #[ptr b, ndV x] w fun r w' => r = .returned (.int .i64 (L.length : Int)) ∧ NodeS base w w' b s k d n v (L ++ [x]) := by
  obtain ⟨ix, hi, hz0, hz1, hz2⟩ := info_parts info_nd
  obtain ⟨w1, hw1⟩ : ∃ w1, w1 = w.alloc (.cells #[.int .i64 x.k, .string (bs x.nm), .string (bs x.vl), .int .i64 x.x, .int .i64 x.a, .int .i64 x.b] 52) := ⟨_, rfl⟩
  obtain ⟨B, hB⟩ : ∃ B, B = w.heap.size := ⟨_, rfl⟩
  have hbl : Below w.heap.size w w1 := by rw [hw1]; exact below_alloc w _
  have X1 : Hid (Blk w1 B (ndC x) 52) := Lib.hid (by rw [hw1, hB]; exact Blk.made w (ndC x) _)
  have H1 := Lib.hid (h.kept hbl)
  have HBL := Lib.hid hbl
  have HVB : Hid (∀ q, v.ownBlock = some q → q < B) := Lib.hid (fun q hq => by rw [hB]; exact own_hi h.own hq)
  have HB0 : Hid (b < B) := Lib.hid (by rw [hB]; exact h.blk.lt)
  have HBW : Hid (B = w.heap.size) := Lib.hid hB
  have HBS := Lib.hid hbase
  have HL := Lib.hid hl
  have c5 := H1.out.c5
  have c6 := H1.out.c6
  have HSS : Hid (∀ w', Below w1.heap.size w1 w' → w'.cell? ⟨b, 4, none⟩ = some v ∧ w'.cell? ⟨B, 0, none⟩ = some (.int .i64 x.k) ∧ w'.cell? ⟨B, 1, none⟩ = some (.string (bs x.nm)) ∧ w'.cell? ⟨B, 2, none⟩ = some (.string (bs x.vl)) ∧ w'.cell? ⟨B, 3, none⟩ = some (.int .i64 x.x) ∧ w'.cell? ⟨B, 4, none⟩ = some (.int .i64 x.a) ∧ w'.cell? ⟨B, 5, none⟩ = some (.int .i64 x.b)) := Lib.hid (fun w' hb => ⟨(H1.out.kept hb).c4, (X1.out.kept hb).cell (j := 0) rfl, (X1.out.kept hb).cell (j := 1) rfl, (X1.out.kept hb).cell (j := 2) rfl, (X1.out.kept hb).cell (j := 3) rfl, (X1.out.kept hb).cell (j := 4) rfl, (X1.out.kept hb).cell (j := 5) rfl⟩)
  clear h hbl hl hbase
  go_enter Tryz.func80, Tryz.ntmps80
  go_upto_region 1 with fail
  rw [← hw1, ← hB]
  clear hw1 hB
  go_upto_region 3 with fail
  clear c5 c6
  refine wp_region_noPanic ?_
  refine wp_region_lastH (fun w' => w'.cell? ⟨b, 4, none⟩ = some v ∧ w'.cell? ⟨B, 0, none⟩ = some (.int .i64 x.k) ∧ w'.cell? ⟨B, 1, none⟩ = some (.string (bs x.nm)) ∧ w'.cell? ⟨B, 2, none⟩ = some (.string (bs x.vl)) ∧ w'.cell? ⟨B, 3, none⟩ = some (.int .i64 x.x) ∧ w'.cell? ⟨B, 4, none⟩ = some (.int .i64 x.a) ∧ w'.cell? ⟨B, 5, none⟩ = some (.int .i64 x.b)) 10 rfl rfl (by kernel_rfl) (by kernel_rfl) (HSS.out _ (below_drewN 1)) (fun hHeld => ?_)
  have HB2 : Hid (Below w1.heap.size w1 w1.drew) := Lib.hid (below_drewN 1)
  obtain ⟨w2, hw2⟩ : ∃ xq, xq = w1.drew := ⟨_, rfl⟩
  rw [← hw2] at hHeld HB2 ⊢
  clear hw2
  refine wpAnyH_take (i := 0) (v := ?v1) rfl (by kernel_rfl) (by kernel_rfl) (by kernel_rfl) (fun _ _ _ h => h) (Or.inl ⟨by rfl, ?hy1⟩) (by assumption) ?rest1
  case hy1 => (intro _ hSw; (try dsimp only at hSw); go_simp; (try with_reducible rfl))
  (try simp only [Act.put]); (try simp only [List.setIfInBounds_toArray]); (try simp only [List.set_cons_succ]); (try simp only [List.set_cons_zero])
  refine wpAnyH_take (i := 1) (v := ?v2) rfl (by kernel_rfl) (by kernel_rfl) (by kernel_rfl) (fun _ _ _ h => h) (Or.inl ⟨by rfl, ?hy2⟩) (by assumption) ?rest2
  case hy2 => (intro _ hSw; (try dsimp only at hSw); go_simp; (try with_reducible rfl))
  (try simp only [Act.put]); (try simp only [List.setIfInBounds_toArray]); (try simp only [List.set_cons_succ]); (try simp only [List.set_cons_zero])
  refine wpAnyH_take (i := 2) (v := ?v3) rfl (by kernel_rfl) (by kernel_rfl) (by kernel_rfl) (fun _ _ _ h => h) (Or.inl ⟨by rfl, ?hy3⟩) (by assumption) ?rest3
  case hy3 => (intro _ hSw; (try dsimp only at hSw); go_simp; (try with_reducible rfl))
  (try simp only [Act.put]); (try simp only [List.setIfInBounds_toArray]); (try simp only [List.set_cons_succ]); (try simp only [List.set_cons_zero])
  refine wpAnyH_take (i := 3) (v := ?v4) rfl (by kernel_rfl) (by kernel_rfl) (by kernel_rfl) (fun _ _ _ h => h) (Or.inl ⟨by rfl, ?hy4⟩) (by assumption) ?rest4
  case hy4 => (intro _ hSw; (try dsimp only at hSw); go_simp; (try with_reducible rfl))
  (try simp only [Act.put]); (try simp only [List.setIfInBounds_toArray]); (try simp only [List.set_cons_succ]); (try simp only [List.set_cons_zero])
  refine wpAnyH_take (i := 4) (v := ?v5) rfl (by kernel_rfl) (by kernel_rfl) (by kernel_rfl) (fun _ _ _ h => h) (Or.inl ⟨by rfl, ?hy5⟩) (by assumption) ?rest5
  case hy5 => (intro _ hSw; (try dsimp only at hSw); go_simp; (try with_reducible rfl))
  (try simp only [Act.put]); (try simp only [List.setIfInBounds_toArray]); (try simp only [List.set_cons_succ]); (try simp only [List.set_cons_zero])
  refine wpAnyH_take (i := 5) (v := ?v6) rfl (by kernel_rfl) (by kernel_rfl) (by kernel_rfl) (fun _ _ _ h => h) (Or.inl ⟨by rfl, ?hy6⟩) (by assumption) ?rest6
  case hy6 => (intro _ hSw; (try dsimp only at hSw); go_simp; (try with_reducible rfl))
  (try simp only [Act.put]); (try simp only [List.setIfInBounds_toArray]); (try simp only [List.set_cons_succ]); (try simp only [List.set_cons_zero])
  (try simp only [List.getElem_toArray]); (try simp only [List.getElem_cons_succ]); (try simp only [List.getElem_cons_zero]); (try simp only [List.setIfInBounds_toArray]); (try simp only [List.set_cons_succ, List.set_cons_zero])
  refine wpAnyH_ready (rs := [6]) (by kernel_rfl) (by simp) ?_
  refine (AllReadyH.cons rfl (fun K hK => ?_) AllReadyH.nil)
  (try simp only [List.getElem_toArray]); (try simp only [List.getElem_cons_succ]); (try simp only [List.getElem_cons_zero])
  go_simp
  obtain ⟨w3, hw3⟩ : ∃ xq, xq = w2.alloc (.cells #[.int .i64 x.k, .string (bs x.nm), .string (bs x.vl), .int .i64 x.x, .int .i64 x.a, .int .i64 x.b] 52) := ⟨_, rfl⟩
  obtain ⟨z3, hz3⟩ : ∃ xq, xq = w2.heap.size := ⟨_, rfl⟩
  have hb3 : Below w1.heap.size w1 w3 := by rw [hw3]; exact below_and HB2.out (below_alloc _ _)
  have HY3 : Hid (Blk w3 z3 (ndC x) 52) := Lib.hid (by rw [hw3, hz3]; exact Blk.made w2 (ndC x) _)
  have HB3 := Lib.hid hb3
  rw [← hw3, ← hz3]
  refine hK.out _ _ (HSS.out _ hb3) (fun hS3 => ?_)
  clear hK K hb3 hw3 hz3
  (try simp only [Act.put]); (try simp only [List.setIfInBounds_toArray]); (try simp only [List.set_cons_succ]); (try simp only [List.set_cons_zero])
  have HO3 := Lib.hid (H1.out.kept HB3.out).own
  have HW3 : Hid (base ≤ w3.heap.size) := Lib.hid (by have h1 := HBS.out; have h2 := HBL.out.size; have h3 := HB3.out.size; omega)
  refine wpAnyH_ready (rs := [7]) (by kernel_rfl) (by simp) ?_
  refine (AllReadyH.cons rfl (fun K hK => ?_) AllReadyH.nil)
  refine step_app rfl (.tmp 15) (.tmp 17) 22 22 rfl base 52 ix (.agg #[.int .i64 0, .string ⟨#[]⟩, .string ⟨#[]⟩, .int .i64 0, .int .i64 0, .int .i64 0]) 6 64 Tryz.underlying22 hi hz0 hz1 hz2 rfl v L.length (rwC ndC L) (by rfl) HO3.out (.slice (some ⟨z3, 0, none⟩) 1 1) 1 (ndC x) (by rfl) (src_block Tryz.underlying22 _ z3 (ndC x).toArray HY3.out rfl (ndC_one x)) (by have := HL.out; unfold maxLen; omega) (by have := HL.out; omega) HW3.out ?_
  intro v4 w4 ho4 hg4 hn4 hk4
  have HO4 : Hid (w4.ownsRow base 52 6 v4 (L ++ [x]).length (rwC ndC (L ++ [x]))) := Lib.hid (by rw [rwC_snoc, List.length_append]; exact ho4)
  have HF4 : Hid (Frp (fun j => v.ownBlock = some j) w1 w4) := Lib.hid ((Frp.of_below HB3.out _).grown hg4 (fun q hq => .inl hq))
  have HP4 : Hid (Blk w4 b [.string s, .int .i64 (k : Int), .int .i64 d, .int .i64 n, v, .int .i64 0, .int .i64 0] 63) := Lib.hid (H1.out.blk.frp HF4.out H1.out.nb)
  have HX4 : Hid (Blk w4 B (ndC x) 52) := Lib.hid (X1.out.frp HF4.out (fun hq => by have := HVB.out _ hq; omega))
  have HN4 : Hid (∀ q, v4.ownBlock = some q → v.ownBlock = some q ∨ w.heap.size ≤ q) := Lib.hid (fun q hq => by
    rcases hk4 q hq with h1 | h1
    · exact .inl h1
    · have h2 := HBL.out.size; have h3 := HB3.out.size; exact .inr (by omega))
  refine hK.out _ _ ⟨HP4.out.cell (j := 4) rfl, HX4.out.cell (j := 0) rfl, HX4.out.cell (j := 1) rfl, HX4.out.cell (j := 2) rfl, HX4.out.cell (j := 3) rfl, HX4.out.cell (j := 4) rfl, HX4.out.cell (j := 5) rfl⟩ (fun hS4 => ?_)
  clear hK K ho4 hg4 hn4 hk4
  (try simp only [Act.put]); (try simp only [List.setIfInBounds_toArray]); (try simp only [List.set_cons_succ]); (try simp only [List.set_cons_zero])
  refine wpAnyH_take (i := 8) (v := ?v7) rfl (by kernel_rfl) (by kernel_rfl) (by kernel_rfl) (fun _ _ _ h => h) (Or.inl ⟨by rfl, ?hy7⟩) (by assumption) ?rest7
  case hy7 => (intro _ hSw; (try dsimp only at hSw); go_simp; (try with_reducible rfl))
  (try simp only [Act.put]); (try simp only [List.setIfInBounds_toArray]); (try simp only [List.set_cons_succ]); (try simp only [List.set_cons_zero])
  refine wpAnyH_take (i := 9) (v := ?v8) rfl (by kernel_rfl) (by kernel_rfl) (by kernel_rfl) (fun _ _ _ h => h) (Or.inl ⟨by rfl, ?hy8⟩) (by assumption) ?rest8
  case hy8 => (intro _ hSw; (try dsimp only at hSw); go_simp; (try with_reducible rfl))
  (try simp only [Act.put]); (try simp only [List.setIfInBounds_toArray]); (try simp only [List.set_cons_succ]); (try simp only [List.set_cons_zero])
  refine wpAnyH_done (by kernel_rfl) ?_ _
  refine LastQ.start rfl ?_
  clear hHeld hS3 hS4
  have hne : v4.ownBlock ≠ some b := own_ty HO4.out HP4.out (by decide)
  have HNE := Lib.hid hne
  clear hne
  obtain ⟨p4, q4, hv4, -, hm4⟩ := own_slice HO4.out
  have HPR : Hid (Prs base (w4.setCell ⟨b, 4, none⟩ v4) b s k d n v4 (L ++ [x]) 0 0) := Lib.hid ⟨HP4.out.set 4 v4, own_other HO4.out (p := ⟨b, 4, none⟩) HNE.out _, H1.out.hb, H1.out.kb, H1.out.sz⟩
  have HFF : Hid (Frp (fun j => j = b ∨ v.ownBlock = some j) w (w4.setCell ⟨b, 4, none⟩ v4)) := Lib.hid (((Frp.of_below HBL.out _).then (HF4.out.mono (fun q hq => .inr hq))).set (p := ⟨b, 4, none⟩) (.inl rfl) v4)
  have d4 := HP4.out.cell (j := 4) rfl
  have f4 := HP4.out.free 4
  have hlen : (L ++ [x]).length = L.length + 1 := by simp
  rw [hlen] at hv4
  have hl2 : (L.length : Int) ≤ 1000 := by have := HL.out; omega
  rw [hv4] at HPR HFF HNE HN4 ⊢
  have hml : maxLen ≤ 9223372036854775807 := by decide
  clear hv4 HO4 hlen
  go_wp2
  refine NoPanic.normal ?_
  have c4 := HPR.out.c4
  have u1 : IntKind.i64.wrap ((L.length : Int) + 1 - 1) = (L.length : Int) := by rw [IntKind.wrap_i64]; omega
  go_wp2
  go_ret
  exact ⟨by simp, _, HPR.out, HFF.out, HN4.out⟩
end Go.Proofs.YtdnoceancoclmaaGreatDoor.Ru
