/- NtSc. -/
import Derived.Test.YtndjgbknhfficaaNtRTo
import Derived.Test.YtndjgbknhfficaaNtRFl
import Derived.Test.YtndjgbknhfficaaNtOnceW
import Derived.Test.YtndjgbknhfficaaOwn
namespace Go.Proofs.Ytndjgbknhfficaa.Nt
open Go.RowKit Go.Proofs.Ytndjgbknhfficaa Go.Proofs.Ytndjgbknhfficaa.So

/-- both nets, side by side -/
structure NS (w0 w : World) (b mb g : Nat) (v : Value) (last : Int) (E : List En) (lr : Int) (L : List En) : Prop where
  n : ON w0 w b mb last E
  r : RNet w g v lr L
  lo : w0.heap.size ≤ g
  vlo : ∀ k, v.ownBlock = some k → w0.heap.size ≤ k
abbrev DP (g : Nat) (v : Value) : Nat → Prop := fun k => k = g ∨ v.ownBlock = some k
section
variable {w0 w w' : World} {b mb g : Nat} {v v' : Value} {last last' lr lr' : Int} {E E' L L' : List En}
theorem NS.kept (h : NS w0 w b mb g v last E lr L) (hb : Below w.heap.size w w') : NS w0 w' b mb g v last E lr L := ⟨h.n.kept hb, h.r.kept hb, h.lo, h.vlo⟩
theorem NS.prog (h : NS w0 w b mb g v last E lr L) (hp : PNet w' b mb last' E') (hf : Frp (NP b mb) w w') : NS w0 w' b mb g v last' E' lr L :=
  ⟨h.n.step hp hf, ⟨h.r.blk.frp hf (h.n.p.apB h.r.blk (by decide)), own_frp h.r.row hf (h.n.p.apT h.r.row (by decide)), fun e he => own_frp (h.r.own e he) hf (h.n.p.apT (h.r.own e he) (by decide))⟩, h.lo, h.vlo⟩
theorem NS.doc (h : NS w0 w b mb g v last E lr L) (hr : RTo w w' g v v' lr' L') : NS w0 w' b mb g v' last E lr' L' := by
  refine ⟨⟨h.n.p.frp hr.fr ?_ ?_ (fun e he => h.r.apU (h.n.p.own e he)), h.n.lo, h.n.bel.trans (hr.fr.below (fun k hk => by rcases hk with rfl | hk; exact h.lo; exact h.vlo k hk) h.n.bel.size)⟩, hr.n, h.lo, fun k hk => by rcases hr.new k hk with h1 | h1; exact h.vlo k h1; exact Nat.le_trans h.n.bel.size h1⟩
  · rintro (h1 | h1)
    · subst h1; exact absurd (blk_ty h.n.p.blk h.r.blk) (by decide)
    · exact own_ty h.r.row h.n.p.blk (by decide) h1
  · rintro (h1 | h1)
    · subst h1; exact blk_nmap h.r.blk h.n.p.map
    · exact own_nmap h.r.row h.n.p.map h1
theorem NS.apA (h : NS w0 w b mb g v last E lr L) {A : Nat} {C : List Value} {t : TypeId} (hA : Blk w A C t) (h1 : 50 ≠ t) (h2 : t ≠ 32) : ¬ DP g v A := by
  rintro (h3 | h3)
  · subst h3; exact absurd (blk_ty h.r.blk hA) h1
  · exact own_ty h.r.row hA h2 h3
theorem NS.apN (h : NS w0 w b mb g v last E lr L) {A : Nat} (hA : w.heap.size ≤ A) : ¬ DP g v A := by
  rintro (h3 | h3)
  · have := h.r.blk.lt; omega
  · have := own_hi h.r.row h3; omega
theorem OwnAt.frp {Q : Nat → Prop} {u : Value} {l : List UInt8} (h : OwnAt w u l) (hf : Frp Q w w') (hq : ∀ k, (∃ C, Blk w k C 5) → ¬ Q k) : OwnAt w' u l := by
  obtain ⟨q, rfl, hb⟩ := h
  exact ⟨q, rfl, hb.frp hf (hq q ⟨_, hb⟩)⟩
theorem OwnAt.prog {u : Value} {l : List UInt8} (h : OwnAt w u l) (hn : NS w0 w b mb g v last E lr L) (hf : Frp (NP b mb) w w') : OwnAt w' u l := OwnAt.frp h hf (fun k ⟨_, hk⟩ => hn.n.p.apB hk (by decide))
theorem OwnAt.doc {u : Value} {l : List UInt8} (h : OwnAt w u l) (hn : NS w0 w b mb g v last E lr L) (hf : Frp (DP g v) w w') : OwnAt w' u l := OwnAt.frp h hf (fun k ⟨_, hk⟩ => hn.apA hk (by decide) (by decide))
/-- what holds between two acts -/
def NF (w0 w : World) (b mb g k : Nat) : Prop := ∃ last E L v, NS w0 w b mb g v last E last L ∧ lts L = lts E ∧ NI last E k ∧ ∀ e ∈ E, e.l.bd.length ≤ 16384
theorem bd_del (h : ∀ e ∈ E, e.l.bd.length ≤ 16384) (n : Int) : ∀ e ∈ edel E n, e.l.bd.length ≤ 16384 := fun e he => h e ((edel_sub E n).subset he)
theorem bd_add (h : ∀ e ∈ E, e.l.bd.length ≤ 16384) {x : En} (hx : x.l.bd.length ≤ 16384) : ∀ e ∈ E ++ [x], e.l.bd.length ≤ 16384 := fun e he => by
  rcases List.mem_append.1 he with he | he
  · exact h e he
  · simp at he; subst he; exact hx
end
end Go.Proofs.Ytndjgbknhfficaa.Nt
