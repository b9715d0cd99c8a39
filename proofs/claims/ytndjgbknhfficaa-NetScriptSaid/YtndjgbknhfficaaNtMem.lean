/- NtMem. -/
import Derived.Test.YtndjgbknhfficaaSoSort
import Derived.Test.YtndjgbknhfficaaFrp
import Derived.Test.YtndjgbknhfficaaClone
namespace Go.Proofs.Ytndjgbknhfficaa.Nt
open Go.RowKit Go.Proofs.Ytndjgbknhfficaa

/-- a letter -/
structure Lt where
  no : Int
  fi : Int
  sd : Int
  rc : Int
  bd : List UInt8
/-- a letter in the map: with the value of its bytes -/
structure En where
  l : Lt
  v : Value
def ltC (l : Lt) (v : Value) : List Value := [.int .u64 l.no, .int .u64 l.fi, .int .i64 l.sd, .int .i64 l.rc, v]
abbrev ltV (l : Lt) (v : Value) : Value := .agg #[.int .u64 l.no, .int .u64 l.fi, .int .i64 l.sd, .int .i64 l.rc, v]
abbrev zeV : Value := .agg #[.int .u64 0, .int .u64 0, .int .i64 0, .int .i64 0, .slice none 0 0]
def En.ent (e : En) : Int × Value := (e.l.no, ltV e.l e.v)
def nM (E : List En) : NM := E.map En.ent
def nos (E : List En) : List Int := E.map (fun e => e.l.no)
theorem nM_keys (E : List En) : (nM E).map (·.1) = nos E := by
  unfold nM nos
  rw [List.map_map]
  rfl
theorem nM_len (E : List En) : (nM E).length = E.length := by simp [nM]
def Rise (E : List En) : Prop := (nos E).Pairwise (· < ·)
def eget (E : List En) (n : Int) : Option En := E.find? (fun e => e.l.no == n)
def edel (E : List En) (n : Int) : List En := E.filter (fun e => !(e.l.no == n))
theorem nM_get (E : List En) (n : Int) : (nM E).get n = (eget E n).map (fun e => ltV e.l e.v) := by
  unfold nM NM.get eget
  rw [List.find?_map]
  have : ((fun p : Int × Value => p.1 == n) ∘ En.ent) = fun e => e.l.no == n := by funext e; rfl
  rw [this, Option.map_map]
  rfl
theorem nM_has (E : List En) (n : Int) : (nM E).hasK n = (eget E n).isSome := by
  unfold nM NM.hasK eget
  rw [List.any_map]
  have : ((fun p : Int × Value => p.1 == n) ∘ En.ent) = fun e => e.l.no == n := by funext e; rfl
  rw [this, Bool.eq_iff_iff, List.any_eq_true, List.find?_isSome]
theorem nM_del (E : List En) (n : Int) : (nM E).del n = nM (edel E n) := by
  unfold nM NM.del edel
  rw [List.filter_map]
  rfl
theorem ins_last (s : Int) (v : Value) : ∀ m : NM, (∀ p ∈ m, p.1 < s) → NM.ins s v m = m ++ [(s, v)]
  | [], _ => rfl
  | y :: r, h => by
    have hy := h y (by simp)
    simp only [NM.ins]
    rw [if_neg (by simp; omega), ins_last s v r (fun p hp => h p (by simp [hp]))]
    rfl
theorem nM_put (E : List En) (e : En) (h : ∀ x ∈ E, x.l.no < e.l.no) : (nM E).put e.l.no (ltV e.l e.v) = nM (E ++ [e]) := by
  unfold NM.put
  have hd : (nM E).del e.l.no = nM E := by
    unfold NM.del
    rw [List.filter_eq_self]
    intro p hp
    obtain ⟨x, hx, rfl⟩ := List.mem_map.1 hp
    have := h x hx
    have h2 : ¬ x.l.no = e.l.no := by omega
    simpa [En.ent] using h2
  rw [hd, ins_last _ _ _ (fun p hp => by obtain ⟨x, hx, rfl⟩ := List.mem_map.1 hp; exact h x hx)]
  unfold nM
  rw [List.map_append]
  rfl
theorem eget_mem {E : List En} {n : Int} {e : En} (h : eget E n = some e) : e ∈ E ∧ e.l.no = n := ⟨List.mem_of_find?_eq_some h, by simpa using List.find?_some h⟩
theorem edel_sub (E : List En) (n : Int) : (edel E n).Sublist E := List.filter_sublist
theorem Rise.del {E : List En} (h : Rise E) (n : Int) : Rise (edel E n) := List.Pairwise.sublist ((edel_sub E n).map _) h
theorem Rise.add {E : List En} (h : Rise E) {e : En} (he : ∀ x ∈ E, x.l.no < e.l.no) : Rise (E ++ [e]) := by
  unfold Rise nos at *
  rw [List.map_append]
  refine List.pairwise_append.2 ⟨h, by simp, fun a ha b hb => ?_⟩
  obtain ⟨x, hx, rfl⟩ := List.mem_map.1 ha
  simp at hb
  subst hb
  exact he x hx

/-- the net at b, its map at mb -/
structure PNet (w : World) (b mb : Nat) (last : Int) (E : List En) : Prop where
  blk : Blk w b [.map (some mb), .int .u64 last] 59
  map : NMap Try.prog 25 w mb (nM E)
  own : ∀ e ∈ E, w.ownsRow 0 5 1 e.v e.l.bd.length (e.l.bd.map B)
/-- what holds of it between calls: k calls that may have made a letter -/
structure NI (last : Int) (E : List En) (k : Nat) : Prop where
  rise : Rise E
  no : ∀ e ∈ E, 1 ≤ e.l.no ∧ e.l.no ≤ last
  fi : ∀ e ∈ E, 1 ≤ e.l.fi ∧ e.l.fi ≤ last
  last : 0 ≤ last ∧ last ≤ k
  len : E.length ≤ k
theorem NI.more {last : Int} {E : List En} {k j : Nat} (h : NI last E k) (hj : k ≤ j) : NI last E j := ⟨h.rise, h.no, h.fi, ⟨h.last.1, by have := h.last.2; omega⟩, Nat.le_trans h.len hj⟩
theorem NI.del {last : Int} {E : List En} {k : Nat} (h : NI last E k) (n : Int) : NI last (edel E n) k := ⟨h.rise.del n, fun e he => h.no e ((edel_sub E n).subset he), fun e he => h.fi e ((edel_sub E n).subset he), h.last, Nat.le_trans (edel_sub E n).length_le h.len⟩
theorem NI.add {last : Int} {E : List En} {k : Nat} (h : NI last E k) {e : En} (he : e.l.no = last + 1) (hf : 1 ≤ e.l.fi ∧ e.l.fi ≤ last + 1) : NI (last + 1) (E ++ [e]) (k + 1) := by
  have hl := h.last
  refine ⟨h.rise.add fun x hx => ?_, fun x hx => ?_, fun x hx => ?_, ⟨by omega, by omega⟩, by have := h.len; simp; omega⟩
  · have := (h.no x hx).2
    omega
  · rcases List.mem_append.1 hx with hx | hx
    · have := h.no x hx
      omega
    · simp at hx
      subst hx
      omega
  · rcases List.mem_append.1 hx with hx | hx
    · have := h.fi x hx
      omega
    · simp at hx
      subst hx
      exact hf
theorem NI.wf {last : Int} {E : List En} {k : Nat} (h : NI last E k) (hk : k ≤ 1000000) {e : En} (he : e ∈ E) : (Lit.int .u64 e.l.no).wf = true := by
  have h1 := h.no e he
  have h2 := h.last
  simp [Lit.wf, IntKind.min, IntKind.max, IntKind.bits, IntKind.signed]
  omega

abbrev NP (b mb : Nat) : Nat → Prop := fun k => k = b ∨ k = mb
section
variable {w w' : World} {b mb : Nat} {last : Int} {E : List En}
theorem blk_nmap {cs : List Value} {t : TypeId} {g : Nat} {m : NM} {k : TypeId} {P : Program} (h : Blk w g cs t) (hm : NMap P k w g m) : False := by
  obtain ⟨es, clock, h1, -⟩ := hm
  unfold Blk at h
  rw [h] at h1
  cases h1
theorem own_nmap {base : Nat} {e : TypeId} {size n : Nat} {v : Value} {xs : List Value} {g : Nat} {m : NM} {k : TypeId} {P : Program} (h : w.ownsRow base e size v n xs) (hm : NMap P k w g m) : v.ownBlock ≠ some g := by
  intro hv
  obtain ⟨es, clock, h1, -⟩ := hm
  rcases h.2 with ⟨rfl, -⟩ | ⟨q, cap, cur, rfl, -, hh, -⟩
  · simp [Value.ownBlock] at hv
  · simp only [Value.ownBlock, Option.some.injEq] at hv
    subst hv
    rw [hh] at h1
    cases h1
theorem PNet.ne (h : PNet w b mb last E) : b ≠ mb := fun e => by subst e; exact blk_nmap h.blk h.map
theorem PNet.ap (h : PNet w b mb last E) {base : Nat} {v : Value} {n : Nat} {xs : List Value} (ho : w.ownsRow base 5 1 v n xs) : ∀ g, v.ownBlock = some g → ¬ NP b mb g := fun g hg hq => by
  rcases hq with rfl | rfl
  · exact own_ty ho h.blk (by decide) hg
  · exact own_nmap ho h.map hg
theorem NMap.fr {P : Program} {k : TypeId} {S : List Nat} {m : NM} (h : NMap P k w mb m) (hf : Fr S w w') (hb : mb ∉ S) : NMap P k w' mb m := by
  have hl := h.lt
  obtain ⟨es, clock, h1, h2⟩ := h
  refine ⟨es, clock, ?_, h2⟩
  rw [hf.block mb hl hb]
  exact h1
theorem PNet.frp {Q : Nat → Prop} (h : PNet w b mb last E) (hf : Frp Q w w') (hb : ¬ Q b) (hm : ¬ Q mb) (ho : ∀ e ∈ E, ∀ g, e.v.ownBlock = some g → ¬ Q g) : PNet w' b mb last E :=
  ⟨h.blk.frp hf hb, by obtain ⟨S, hS, hS2⟩ := hf; exact NMap.fr h.map hS (fun hx => hm (hS2 _ hx)), fun e he => own_frp (h.own e he) hf (ho e he)⟩
theorem PNet.kept (h : PNet w b mb last E) (hb : Below w.heap.size w w') : PNet w' b mb last E := h.frp (Frp.of_below hb (fun _ => False)) id id (fun _ _ _ _ => id)
theorem PNet.lt (h : PNet w b mb last E) : b < w.heap.size ∧ mb < w.heap.size := ⟨h.blk.lt, NMap.lt h.map⟩
/-- the map turned: a letter more -/
theorem PNet.add {e : En} (h : PNet w b mb last E) (hf : Frp (NP b mb) w w') (hblk : Blk w' b [.map (some mb), .int .u64 (last + 1)] 59) (hmap : NMap Try.prog 25 w' mb (nM (E ++ [e]))) (ho : w'.ownsRow 0 5 1 e.v e.l.bd.length (e.l.bd.map B)) : PNet w' b mb (last + 1) (E ++ [e]) :=
  ⟨hblk, hmap, fun x hx => by
    rcases List.mem_append.1 hx with hx | hx
    · exact own_frp (h.own x hx) hf (h.ap (h.own x hx))
    · simp at hx
      subst hx
      exact ho⟩
theorem PNet.del (h : PNet w b mb last E) (n : Int) (hg : w.grownBy w' (some mb)) (hmap : NMap Try.prog 25 w' mb ((nM E).del n)) : PNet w' b mb last (edel E n) ∧ Frp (NP b mb) w w' := by
  have hf : Frp (NP b mb) w w' := (Frp.refl _ w).grown hg (fun k hk => by cases hk; exact .inl (.inr rfl))
  refine ⟨⟨h.blk.grown hg (fun e => h.ne (by cases e; rfl)), by rw [← nM_del]; exact hmap, fun x hx => ?_⟩, hf⟩
  have hx' := (edel_sub E n).subset hx
  exact own_frp (h.own x hx') hf (h.ap (h.own x hx'))
end
end Go.Proofs.Ytndjgbknhfficaa.Nt
