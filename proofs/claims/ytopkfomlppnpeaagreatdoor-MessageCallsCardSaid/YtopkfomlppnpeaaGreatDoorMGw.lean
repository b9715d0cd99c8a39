/- , laid together: MsRdP, MsGw. -/
import Derived.Test.YtopkfomlppnpeaaGreatDoorMFt
import Derived.Test.YtopkfomlppnpeaaGreatDoorMRdr
import Derived.Test.YtopkfomlppnpeaaGreatDoorMSep
import Derived.Test.YtopkfomlppnpeaaGreatDoorMid
import Derived.Test.YtopkfomlppnpeaaGreatDoorAmt
namespace Go.Proofs.YtopkfomlppnpeaaGreatDoor.Ms
open Go.RowKit Go.Proofs.YtopkfomlppnpeaaGreatDoor

/-- a reader's state: its place, its error -/
abbrev S := Nat × Int
def rU (l : List UInt8) (s : S) : Int × S := (((Wire.uint l s.1 s.2).1 : Int), (Wire.uint l s.1 s.2).2)
def rI (l : List UInt8) (s : S) : Int × S := Wire.int l s.1 s.2
def rT (l : List UInt8) (s : S) : List UInt8 × S := Wire.text l s.1 s.2
def rC (m : Int) (l : List UInt8) (s : S) : Int × S := Wire.count l s.1 s.2 m
def rA (l : List UInt8) (s : S) : Am × S :=
  let c := rI l s
  let r := rI l c.2
  let d := rI l r.2
  let p := rI l d.2
  (⟨c.1, r.1, d.1, p.1⟩, p.2)
/-- a task and its incarnation -/
def rK (l : List UInt8) (s : S) : El × S :=
  let j := rT l s
  let i := rC 1073741824 l j.2
  let n := rU l i.2
  (⟨j.1, i.1, n.1, Am.zero, [], 0, 0⟩, n.2)
def envRd (l : List UInt8) (s : S) : El × S :=
  let j := rT l s
  let a := rA l j.2
  (⟨j.1, 0, 0, a.1, [], 0, 0⟩, a.2)
def staRd (l : List UInt8) (s : S) : El × S :=
  let k := rK l s
  let a := rA l k.2
  let t := rT l a.2
  (⟨k.1.j, k.1.i, k.1.n, a.1, t.1, 0, 0⟩, t.2)
def stoRd (l : List UInt8) (s : S) : El × S := rK l s
def helRd (l : List UInt8) (s : S) : El × S :=
  let k := rK l s
  let q := rC 1073741824 l k.2
  (⟨k.1.j, k.1.i, k.1.n, Am.zero, [], q.1, 0⟩, q.2)
def finRd (l : List UInt8) (s : S) : El × S :=
  let u := rU l s
  let k := rK l u.2
  let q := rC 1073741824 l k.2
  (⟨k.1.j, k.1.i, k.1.n, Am.zero, [], q.1, u.1⟩, q.2)
def refRd (l : List UInt8) (s : S) : El × S := helRd l s
/-- a list's elements -/
def rdN (one : List UInt8 → S → El × S) (l : List UInt8) : Nat → S → List El × S
  | 0, s => ([], s)
  | n + 1, s => if s.2 = 0 then ((one l s).1 :: (rdN one l n (one l s).2).1, (rdN one l n (one l s).2).2) else ([], s)
def rL (one : List UInt8 → S → El × S) (l : List UInt8) (s : S) : List El × S := rdN one l (rC 256 l s).1.toNat (rC 256 l s).2
end Go.Proofs.YtopkfomlppnpeaaGreatDoor.Ms

namespace Go.Proofs.YtopkfomlppnpeaaGreatDoor.Ms
open Go.RowKit Go.Proofs.YtopkfomlppnpeaaGreatDoor

theorem Rdr.frp {Q : Nat → Prop} {w w' : World} {b : Nat} {l : List UInt8} {a : Nat} {e : Int} (h : Rdr w b l a e) (hf : Frp Q w w') (hq : ∀ k, k ≤ b → ¬ Q k) : Rdr w' b l a e := by
  obtain ⟨v, h1, h2, h3, h4⟩ := h
  refine ⟨v, h1.frp hf (hq b (Nat.le_refl _)), ?_, h3, h4⟩
  by_cases hl : l = []
  · subst hl
    obtain ⟨p, c, hv, g1, g2, g3, g4, g5, g6⟩ := h2
    exact ⟨p, c, hv, g1, g2, g3, g4, g5, .inl rfl⟩
  · obtain ⟨p, c, hv, g1, g2, g3, g4, g5, g6⟩ := h2
    refine ⟨p, c, hv, g1, g2, g3, g4, g5, g6.imp id fun ⟨k, o, hp, hc⟩ => ⟨k, o, hp, fun j u hj => cell_frp (hc j u hj) hf (hq k (Nat.le_of_lt (h3 hl k (by rw [hv, hp]; rfl))))⟩⟩
theorem Rdr.kept {w w' : World} {b : Nat} {l : List UInt8} {a : Nat} {e : Int} (h : Rdr w b l a e) (hb : Below w.heap.size w w') : Rdr w' b l a e := Rdr.frp h (Frp.of_below hb (fun _ => False)) (fun _ _ => id)
theorem Rdr.lt {w : World} {b : Nat} {l : List UInt8} {a : Nat} {e : Int} (h : Rdr w b l a e) : b < w.heap.size := by
  obtain ⟨v, h1, -⟩ := h
  exact h1.lt
/-- what a reading function leaves -/
def RF (w : World) (b : Nat) (l : List UInt8) (v : Value) (s : S) (e : Ending) (w' : World) : Prop := e = .returned v ∧ Rdr w' b l s.1 s.2 ∧ Frp (fun k => k = b) w w'
theorem rf_of {w : World} {b : Nat} {l : List UInt8} {v v' : Value} {s s' : S} (hv : v = v') (hs : s = s') {e : Ending} {w' : World} (h : RM w b l v s e w') : RF w b l v' s' e w' := by
  subst hv hs
  exact ⟨h.1, h.2.1, (Frp.refl _ w).grown h.2.2 (fun k hk => by cases hk; exact .inl rfl)⟩
structure Gw (w0 : World) (b : Nat) (l : List UInt8) (w : World) (s : S) (R : Nat) (RC : List Value) (RT : TypeId) (X : Nat) (XC : List Value) (XT : TypeId) : Prop where
  rd : Rdr w b l s.1 s.2
  r : Blk w R RC RT
  x : Blk w X XC XT
  fr : Frp (fun k => k = b) w0 w
  hb : b < R ∧ b < X ∧ R ≠ X
  lo : w0.heap.size ≤ R ∧ w0.heap.size ≤ X
section
variable {w0 w w' : World} {b : Nat} {l : List UInt8} {s s' : S} {R X : Nat} {RC XC : List Value} {RT XT : TypeId}
theorem Gw.call (h : Gw w0 b l w s R RC RT X XC XT) (hr : Rdr w' b l s'.1 s'.2) (hf : Frp (fun k => k = b) w w') : Gw w0 b l w' s' R RC RT X XC XT :=
  ⟨hr, h.r.frp hf (fun e => by have := h.hb; omega), h.x.frp hf (fun e => by have := h.hb; omega), h.fr.then hf, h.hb, h.lo⟩
theorem Gw.setX (h : Gw w0 b l w s R RC RT X XC XT) (j : Nat) (u : Value) : Gw w0 b l (w.setCell ⟨X, j, none⟩ u) s R RC RT X (XC.set j u) XT :=
  ⟨Rdr.frp h.rd ((Frp.refl (fun k => k = X) w).set (p := ⟨X, j, none⟩) rfl u) (fun k hk e => by have := h.hb; omega), h.r.other (a := ⟨X, j, none⟩) h.hb.2.2 u, h.x.set j u, h.fr.trans ((Frp.refl (fun k => k = X) w).set (p := ⟨X, j, none⟩) rfl u) (fun k hk => .inr (by rw [hk]; exact h.lo.2)), h.hb, h.lo⟩
theorem Gw.setR (h : Gw w0 b l w s R RC RT X XC XT) (j : Nat) (u : Value) : Gw w0 b l (w.setCell ⟨R, j, none⟩ u) s R (RC.set j u) RT X XC XT :=
  ⟨Rdr.frp h.rd ((Frp.refl (fun k => k = R) w).set (p := ⟨R, j, none⟩) rfl u) (fun k hk e => by have := h.hb; omega), h.r.set j u, h.x.other (a := ⟨R, j, none⟩) (fun e => h.hb.2.2 e.symm) u, h.fr.trans ((Frp.refl (fun k => k = R) w).set (p := ⟨R, j, none⟩) rfl u) (fun k hk => .inr (by rw [hk]; exact h.lo.1)), h.hb, h.lo⟩
/-- the result's box is made -/
theorem gw_start {C : List Value} {t : TypeId} (h : Rdr w b l s.1 s.2) : Rdr (w.alloc (.cells C.toArray t)) b l s.1 s.2 ∧ Blk (w.alloc (.cells C.toArray t)) w.heap.size C t ∧ Frp (fun k => k = b) w (w.alloc (.cells C.toArray t)) ∧ b < w.heap.size :=
  ⟨Rdr.kept h (below_alloc _ _), Blk.made w C t, Frp.of_below (below_alloc _ _) _, Rdr.lt h⟩
/-- a box is made behind a call -/
theorem gw_box {C : List Value} {t : TypeId} (hr : Rdr w b l s.1 s.2) (hR : Blk w R RC RT) (hf : Frp (fun k => k = b) w0 w) (hb : b < R) (hlo : w0.heap.size ≤ R) : Gw w0 b l (w.alloc (.cells C.toArray t)) s R RC RT w.heap.size C t :=
  ⟨Rdr.kept hr (below_alloc _ _), hR.alloc _, Blk.made w C t, hf.next (below_alloc _ _), ⟨hb, Rdr.lt hr, by have := hR.lt; omega⟩, hlo, hf.size⟩
theorem gw_drew (h : Gw w0 b l w s R RC RT X XC XT) : Gw w0 b l w.drew s R RC RT X XC XT := h.call (Rdr.kept h.rd (below_drewN 1)) (Frp.of_below (below_drewN 1) _)
end
theorem ret_cell1 {P : Program} {fn : Func} {R : Ending → World → Prop} {a : Act} {w : World} {p : Tmp} {ty t : TypeId} {g : Nat} {cs : List Value} {d : TypeDesc} (h : fn.results = #[.cell p ty]) (hd : a.defers = [])
    (hp : a.tmps.getD p undef = .pointer (some ⟨g, 0, none⟩)) (hg : Blk w g cs t) (hu : P.underlying ty = some d) (hs : (match d with | .struct _ | .array _ _ => true | _ => false) = true) (hi : (P.info? ty).map (·.size) = some cs.length)
    (hR : R (.returned (.agg cs.toArray)) w) : bodyPost P fn R .ret a w := by
  refine bodyPost_ret (results_row h _ w g t cs.toArray (0, 0) d hp hg hu hs (by rw [hi]; simp)) hd hR
end Go.Proofs.YtopkfomlppnpeaaGreatDoor.Ms
