/- A disk of the program in memory. -/
import Derived.Test.YtgcemddobcjpnaaDkPlain
import Derived.Test.YtgcemddobcjpnaaFrp
namespace Go.Proofs.Ytgcemddobcjpnaa
open Go.RowKit

structure Pf where
  f : Fl
  a : Nat
  v : Value
namespace Pf
def key (p : Pf) : List UInt8 := p.f.key
def val (p : Pf) : Value := ptr p.a
end Pf

abbrev dkC (mb : Nat) (D : Dk) : List Value := [.map (some mb), .int .i64 D.room, .bool D.fused, .int .i64 D.fuse, .bool D.off, .int .i64 D.steps]
/-- two files lie apart -/
def ApP (p q : Pf) : Prop := p.a ≠ q.a ∧ ∀ k, p.v.ownBlock = some k → q.v.ownBlock ≠ some k
theorem ApP.symm {p q : Pf} (h : ApP p q) : ApP q p := ⟨h.1.symm, fun k h1 h2 => h.2 k h2 h1⟩
structure PDk (w : World) (b mb : Nat) (D : Dk) (L : List Pf) : Prop where
  blk : Blk w b (dkC mb D) 54
  map : SMap Try.prog 9 w mb (kM Pf.key Pf.val L)
  eq : L.map Pf.f = D.F
  file : ∀ p ∈ L, Blk w p.a [p.v, .int .i64 (p.f.s : Int)] 69
  body : ∀ p ∈ L, Fresh 0 w p.v p.f.b
  apart : L.Pairwise ApP
/-- its blocks -/
def fpP (b mb : Nat) (L : List Pf) (k : Nat) : Prop := k = b ∨ k = mb ∨ ∃ p ∈ L, k = p.a ∨ p.v.ownBlock = some k

/-- what holds of a disk between calls -/
structure DkI (D : Dk) (M : Nat) (N : Int) : Prop where
  rise : KRise Fl.key D.F
  syn : ∀ f ∈ D.F, f.s ≤ f.b.length
  nam : ∀ f ∈ D.F, f.n.size ≤ 24
  fits : Dk.bytes D.F ≤ D.room
  room : D.room ≤ 1073741824
  len : D.F.length ≤ M
  fuse : 0 ≤ D.fuse ∧ D.fuse ≤ 9223372036854775807
  steps : 0 ≤ D.steps ∧ D.steps ≤ N

def Dsk (w : World) (b : Nat) (P : Nat → Prop) (D : Dk) : Prop := ∃ mb L, PDk w b mb D L ∧ ∀ k, fpP b mb L k → P k

section
variable {w w' : World} {b mb : Nat} {D : Dk} {L : List Pf}
theorem PDk.rise (h : PDk w b mb D L) (hr : KRise Fl.key D.F) : KRise Pf.key L := (KRise.map (key := Pf.key) (f := Pf.f) (fun _ => rfl)).1 (by rw [h.eq]; exact hr)
theorem PDk.find (h : PDk w b mb D L) (s : List UInt8) : kfnd Fl.key D.F s = (kfnd Pf.key L s).map Pf.f := by
  rw [← h.eq]
  exact kfnd_map (fun _ => rfl) L s
theorem PDk.len (h : PDk w b mb D L) : L.length = D.F.length := by rw [← h.eq, List.length_map]
theorem PDk.ne_mb (h : PDk w b mb D L) : mb ≠ b := fun e => by subst e; exact blk_map h.blk h.map
theorem PDk.ne_a (h : PDk w b mb D L) {p : Pf} (hp : p ∈ L) : p.a ≠ b ∧ p.a ≠ mb :=
  ⟨fun e => by have h1 := h.file p hp; rw [e] at h1; exact absurd (blk_ty h1 h.blk) (by decide), fun e => by have h1 := h.file p hp; rw [e] at h1; exact blk_map h1 h.map⟩
theorem PDk.ne_v (h : PDk w b mb D L) {p : Pf} (hp : p ∈ L) : p.v.ownBlock ≠ some b ∧ p.v.ownBlock ≠ some mb ∧ ∀ q ∈ L, p.v.ownBlock ≠ some q.a :=
  ⟨own_ty (h.body p hp) h.blk (by decide), own_map (h.body p hp) h.map, fun q hq => own_ty (h.body p hp) (h.file q hq) (by decide)⟩
theorem PDk.kept (h : PDk w b mb D L) (hb : Below w.heap.size w w') : PDk w' b mb D L :=
  ⟨h.blk.kept hb, h.map.kept hb, h.eq, fun p hp => (h.file p hp).kept hb, fun p hp => own_keep (h.body p hp) hb, h.apart⟩
theorem PDk.lt (h : PDk w b mb D L) {k : Nat} (hk : fpP b mb L k) : k < w.heap.size := by
  rcases hk with rfl | rfl | ⟨p, hp, rfl | hv⟩
  · exact h.blk.lt
  · exact h.map.lt
  · exact (h.file p hp).lt
  · exact own_hi (h.body p hp) hv
theorem PDk.frp {Q : Nat → Prop} (h : PDk w b mb D L) (hf : Frp Q w w') (hq : ∀ k, fpP b mb L k → ¬ Q k) : PDk w' b mb D L :=
  ⟨h.blk.frp hf (hq b (.inl rfl)), h.map.frp hf (hq mb (.inr (.inl rfl))), h.eq, fun p hp => (h.file p hp).frp hf (hq p.a (.inr (.inr ⟨p, hp, .inl rfl⟩))),
    fun p hp => own_frp (h.body p hp) hf (fun g hg => hq g (.inr (.inr ⟨p, hp, .inr hg⟩))), h.apart⟩
theorem PDk.apart_of (h : PDk w b mb D L) {p q : Pf} (hp : p ∈ L) (hq : q ∈ L) (hne : p ≠ q) : ApP p q := by
  obtain ⟨i, hi, rfl⟩ := List.getElem_of_mem hp
  obtain ⟨j, hj, rfl⟩ := List.getElem_of_mem hq
  have hij : i ≠ j := fun e => hne (by subst e; rfl)
  rcases Nat.lt_or_gt_of_ne hij with h1 | h1
  · exact List.pairwise_iff_getElem.1 h.apart i j hi hj h1
  · exact (List.pairwise_iff_getElem.1 h.apart j i hj hi h1).symm

/-- the disk's own numbers turn -/
theorem PDk.flds {D' : Dk} (h : PDk w b mb D L) (hF : D'.F = D.F) (hf : Frp (fun k => k = b) w w') (hb : Blk w' b (dkC mb D') 54) : PDk w' b mb D' L :=
  ⟨hb, h.map.frp hf h.ne_mb, by rw [hF]; exact h.eq, fun p hp => (h.file p hp).frp hf (h.ne_a hp).1, fun p hp => own_frp (h.body p hp) hf (fun g hg e => (h.ne_v hp).1 (by rw [hg, e])), h.apart⟩

theorem pairwise_kins {x : Pf} (h : L.Pairwise ApP) (hx : ∀ q ∈ L, ApP x q) : (kins Pf.key x L).Pairwise ApP :=
  ((kins_perm (key := Pf.key) x L).pairwise_iff (fun {a b} h => ApP.symm h)).2 (List.pairwise_cons.2 ⟨hx, h⟩)
theorem PDk.mem_ne (h : PDk w b mb D L) (hr : KRise Fl.key D.F) {p q : Pf} (hp : p ∈ L) (hq : q ∈ L) (hk : q.key ≠ p.key) : ApP p q := h.apart_of hp hq (fun e => hk (by rw [e]))

/-- a new file -/
theorem PDk.add {D' : Dk} {x : Pf} (h : PDk w b mb D L) (hn : ∀ e ∈ L, e.key ≠ x.key) (hF : D'.F = kput Fl.key D.F x.f) (hC : dkC mb D' = dkC mb D) (hf : Frp (fun k => k = mb) w w') (hm : SMap Try.prog 9 w' mb ((kM Pf.key Pf.val L).put x.key x.val))
    (hfile : Blk w' x.a [x.v, .int .i64 (x.f.s : Int)] 69) (hbody : Fresh 0 w' x.v x.f.b) (hxa : w.heap.size ≤ x.a) (hxv : ∀ k, x.v.ownBlock = some k → w.heap.size ≤ k) : PDk w' b mb D' (kput Pf.key L x) := by
  have hrem : krem Pf.key L x.key = L := krem_no hn
  refine ⟨by rw [hC]; exact h.blk.frp hf h.ne_mb.symm, by rw [kM_put] at hm; exact hm, by rw [hF, ← h.eq, kput_map (key := Pf.key) (key' := Fl.key) (f := Pf.f) (fun _ => rfl)], fun p hp => ?_, fun p hp => ?_, ?_⟩
  · rcases (kput_mem L x p).1 hp with rfl | ⟨hp, -⟩
    · exact hfile
    · exact (h.file p hp).frp hf (h.ne_a hp).2
  · rcases (kput_mem L x p).1 hp with rfl | ⟨hp, -⟩
    · exact hbody
    · exact own_frp (h.body p hp) hf (fun g hg e => (h.ne_v hp).2.1 (by rw [hg, e]))
  · unfold kput
    rw [hrem]
    refine pairwise_kins h.apart fun q hq => ⟨fun e => ?_, fun k h1 h2 => ?_⟩
    · have := (h.file q hq).lt
      omega
    · have := own_hi (h.body q hq) h2
      have := hxv k h1
      omega
/-- a file is no more -/
theorem PDk.del {D' : Dk} (h : PDk w b mb D L) (s : ByteArray) (hF : D'.F = krem Fl.key D.F s.data.toList) (hC : dkC mb D' = dkC mb D) (hf : Frp (fun k => k = mb) w w') (hm : SMap Try.prog 9 w' mb ((kM Pf.key Pf.val L).del s.data.toList)) : PDk w' b mb D' (krem Pf.key L s.data.toList) := by
  have hsub : ∀ p ∈ krem Pf.key L s.data.toList, p ∈ L := fun p hp => ((krem_mem L _ p).1 hp).1
  exact ⟨by rw [hC]; exact h.blk.frp hf h.ne_mb.symm, by rw [kM_del] at hm; exact hm, by rw [hF, ← h.eq, krem_map (key := Pf.key) (key' := Fl.key) (f := Pf.f) (fun _ => rfl)], fun p hp => (h.file p (hsub p hp)).frp hf (h.ne_a (hsub p hp)).2,
    fun p hp => own_frp (h.body p (hsub p hp)) hf (fun g hg e => (h.ne_v (hsub p hp)).2.1 (by rw [hg, e])), h.apart.filter _⟩
/-- the same file, by another name, where the name's file is no more -/
theorem PDk.again {D' : Dk} {x : Pf} (h : PDk w b mb D L) (hF : D'.F = kput Fl.key D.F x.f) (hC : dkC mb D' = dkC mb D) (hf : Frp (fun k => k = mb) w w') (hm : SMap Try.prog 9 w' mb ((kM Pf.key Pf.val L).put x.key x.val))
    (hfile : Blk w x.a [x.v, .int .i64 (x.f.s : Int)] 69) (hbody : Fresh 0 w x.v x.f.b) (hx : ∀ q ∈ L, ApP x q) : PDk w' b mb D' (kput Pf.key L x) := by
  have hxm : x.a ≠ mb := fun e => by rw [e] at hfile; exact blk_map hfile h.map
  refine ⟨by rw [hC]; exact h.blk.frp hf h.ne_mb.symm, by rw [kM_put] at hm; exact hm, by rw [hF, ← h.eq, kput_map (key := Pf.key) (key' := Fl.key) (f := Pf.f) (fun _ => rfl)], fun p hp => ?_, fun p hp => ?_, ?_⟩
  · rcases (kput_mem L x p).1 hp with rfl | ⟨hp, -⟩
    · exact hfile.frp hf hxm
    · exact (h.file p hp).frp hf (h.ne_a hp).2
  · rcases (kput_mem L x p).1 hp with rfl | ⟨hp, -⟩
    · exact own_frp hbody hf (fun g hg e => own_map hbody h.map (by rw [hg, e]))
    · exact own_frp (h.body p hp) hf (fun g hg e => (h.ne_v hp).2.1 (by rw [hg, e]))
  · unfold kput
    exact pairwise_kins (h.apart.filter _) fun q hq => hx q ((krem_mem L _ q).1 hq).1
theorem kM_set {i : Nat} {p x : Pf} (hi : i < L.length) (hp : L[i] = p) (hk : x.key = p.key) (ha : x.a = p.a) : kM Pf.key Pf.val (L.set i x) = kM Pf.key Pf.val L := by
  unfold kM
  rw [List.map_set]
  apply List.ext_getElem?
  intro j
  rw [List.getElem?_set]
  split
  · next h =>
    subst h
    rw [if_pos (by simpa using hi), List.getElem?_map, List.getElem?_eq_getElem hi, hp]
    simp [hk, Pf.val, ha]
  · rfl
/-- a file turns -/
theorem PDk.turn {D' : Dk} {p x : Pf} (h : PDk w b mb D L) (hr : KRise Fl.key D.F) (hp : kfnd Pf.key L x.key = some p) (ha : x.a = p.a) (hF : D'.F = kput Fl.key D.F x.f) (hC : dkC mb D' = dkC mb D) (hf : Frp (fun k => k = p.a ∨ p.v.ownBlock = some k) w w')
    (hfile : Blk w' x.a [x.v, .int .i64 (x.f.s : Int)] 69) (hbody : Fresh 0 w' x.v x.f.b) (hxv : ∀ k, x.v.ownBlock = some k → p.v.ownBlock = some k ∨ w.heap.size ≤ k) : PDk w' b mb D' (kput Pf.key L x) := by
  obtain ⟨hmem, hkey⟩ := kfnd_mem hp
  have hrL := h.rise hr
  have hnb : ∀ k, (k = b ∨ k = mb) → ¬ (k = p.a ∨ p.v.ownBlock = some k) := fun k hk hq => by
    rcases hk with rfl | rfl <;> rcases hq with hq | hq
    · exact (h.ne_a hmem).1 hq.symm
    · exact (h.ne_v hmem).1 hq
    · exact (h.ne_a hmem).2 hq.symm
    · exact (h.ne_v hmem).2.1 hq
  have hother : ∀ q ∈ L, q.key ≠ x.key → ApP p q := fun q hq hk => h.mem_ne hr hmem hq (by rw [hkey]; exact hk)
  have hset := kput_same (key := Pf.key) (x := x) hrL hp rfl
  obtain ⟨hi, hpe⟩ := kfnd_place hrL hp
  refine ⟨by rw [hC]; exact h.blk.frp hf (hnb b (.inl rfl)), ?_, by rw [hF, ← h.eq, kput_map (key := Pf.key) (key' := Fl.key) (f := Pf.f) (fun _ => rfl)], fun q hq => ?_, fun q hq => ?_, ?_⟩
  · rw [hset, kM_set hi hpe hkey.symm ha]
    exact h.map.frp hf (hnb mb (.inr rfl))
  · rcases (kput_mem L x q).1 hq with rfl | ⟨hq, hk⟩
    · exact hfile
    · have hap := hother q hq hk
      exact (h.file q hq).frp hf (fun e => e.elim (fun e => hap.1 e.symm) (fun e => (h.ne_v hmem).2.2 q hq e))
  · rcases (kput_mem L x q).1 hq with rfl | ⟨hq, hk⟩
    · exact hbody
    · have hap := hother q hq hk
      exact own_frp (h.body q hq) hf (fun g hg e => e.elim (fun e => (h.ne_v hq).2.2 p hmem (by rw [hg, e])) (fun e => hap.2 g e hg))
  · unfold kput
    refine pairwise_kins (h.apart.filter _) fun q hq => ?_
    obtain ⟨hq, hk⟩ := (krem_mem L _ q).1 hq
    have hap := hother q hq hk
    refine ⟨by rw [ha]; exact hap.1, fun k h1 h2 => ?_⟩
    rcases hxv k h1 with h3 | h3
    · exact hap.2 k h3 h2
    · have := own_hi (h.body q hq) h2
      omega
end

section
variable {w w' : World} {b : Nat} {P Q : Nat → Prop} {D : Dk}
theorem Dsk.kept (h : Dsk w b P D) (hb : Below w.heap.size w w') : Dsk w' b P D := by
  obtain ⟨mb, L, h1, h2⟩ := h
  exact ⟨mb, L, h1.kept hb, h2⟩
theorem Dsk.mono (h : Dsk w b P D) (hp : ∀ k, P k → k < w.heap.size → Q k) : Dsk w b Q D := by
  obtain ⟨mb, L, h1, h2⟩ := h
  exact ⟨mb, L, h1, fun k hk => hp k (h2 k hk) (h1.lt hk)⟩
theorem Dsk.frp (h : Dsk w b P D) (hf : Frp Q w w') (hq : ∀ k, P k → ¬ Q k) : Dsk w' b P D := by
  obtain ⟨mb, L, h1, h2⟩ := h
  exact ⟨mb, L, h1.frp hf (fun k hk => hq k (h2 k hk)), h2⟩
end
end Go.Proofs.Ytgcemddobcjpnaa
