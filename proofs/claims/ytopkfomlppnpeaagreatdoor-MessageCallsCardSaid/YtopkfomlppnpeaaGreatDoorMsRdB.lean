/- MsRdB. -/
import Derived.Test.YtopkfomlppnpeaaGreatDoorMOne
import Derived.Test.YtopkfomlppnpeaaGreatDoorMFr
import Derived.Test.YtopkfomlppnpeaaGreatDoorMEl
namespace Go.Proofs.YtopkfomlppnpeaaGreatDoor.Ms
open Go.RowKit Go.Proofs.YtopkfomlppnpeaaGreatDoor

theorem wu_lt (l : List UInt8) (a : Nat) (e : Int) : (Wire.uint l a e).1 < 18446744073709551616 := by
  unfold Wire.uint
  split
  · simp
  · split
    · simp
    · exact Wire.read_lt _
theorem rU_b (l : List UInt8) (s : S) : u64B (rU l s).1 := by
  unfold rU u64B
  have := wu_lt l s.1 s.2
  simp only
  omega
theorem rI_b (l : List UInt8) (s : S) : i64B (rI l s).1 := by
  unfold rI i64B Wire.int Wire.unzig
  have := wu_lt l s.1 s.2
  simp only
  split <;> omega
theorem rC_b (l : List UInt8) (s : S) : 0 ≤ (rC 1073741824 l s).1 ∧ (rC 1073741824 l s).1 ≤ 1073741824 := by
  unfold rC Wire.count
  split
  · simp
  · split
    · simp
    · split
      · simp
      · split
        · simp
        · simp only; omega
theorem rT_len (l : List UInt8) (s : S) : (rT l s).1.length ≤ l.length := by
  unfold rT Wire.text
  split
  · simp
  · split
    · simp
    · split
      · simp
      · split
        · simp
        · simp only [List.length_take, List.length_drop]; omega
theorem rK_ok (l : List UInt8) (s : S) : (rK l s).1.j.length ≤ l.length ∧ u64B (rK l s).1.n ∧ (rK l s).1.a = Am.zero ∧ (rK l s).1.s = [] ∧ (rK l s).1.q = 0 ∧ (rK l s).1.k = 0 := by
  unfold rK
  exact ⟨rT_len _ _, rU_b _ _, rfl, rfl, rfl, rfl⟩
theorem envRd_ok {l : List UInt8} (hl : l.length ≤ 140737488351232) (s : S) : TxOk (envRd l s).1 ∧ envK (envRd l s).1 := by
  unfold envRd
  have := rT_len l s
  exact ⟨⟨by simp only; omega, by simp, by simp, by simp⟩, rfl, rfl, rfl, rfl, rfl⟩
theorem staRd_ok {l : List UInt8} (hl : l.length ≤ 140737488351232) (s : S) : TxOk (staRd l s).1 ∧ staK (staRd l s).1 := by
  unfold staRd
  have h1 := rK_ok l s
  have h2 := rT_len l (rA l (rK l s).2).2
  exact ⟨⟨by simp only; omega, by simp only; omega, h1.2.1, by simp⟩, rfl, rfl⟩
theorem stoRd_ok {l : List UInt8} (hl : l.length ≤ 140737488351232) (s : S) : TxOk (stoRd l s).1 ∧ stoK (stoRd l s).1 := by
  unfold stoRd
  have h1 := rK_ok l s
  exact ⟨⟨by omega, by rw [h1.2.2.2.1]; simp, h1.2.1, by rw [h1.2.2.2.2.2]; simp⟩, h1.2.2⟩
theorem helRd_ok {l : List UInt8} (hl : l.length ≤ 140737488351232) (s : S) : TxOk (helRd l s).1 ∧ helK (helRd l s).1 := by
  unfold helRd
  have h1 := rK_ok l s
  exact ⟨⟨by simp only; omega, by simp, h1.2.1, by simp⟩, rfl, rfl, rfl⟩
theorem refRd_ok {l : List UInt8} (hl : l.length ≤ 140737488351232) (s : S) : TxOk (refRd l s).1 ∧ refK (refRd l s).1 := helRd_ok hl s
theorem finRd_ok {l : List UInt8} (hl : l.length ≤ 140737488351232) (s : S) : TxOk (finRd l s).1 ∧ finK (finRd l s).1 := by
  unfold finRd
  have h1 := rK_ok l (rU l s).2
  exact ⟨⟨by simp only; omega, by simp, h1.2.1, rU_b _ _⟩, rfl, rfl⟩
theorem rdN_all {one : List UInt8 → S → El × S} {l : List UInt8} {K : El → Prop} (h : ∀ s, TxOk (one l s).1 ∧ K (one l s).1) : ∀ n s, ∀ x ∈ (rdN one l n s).1, TxOk x ∧ K x
  | 0, _, x, hx => by simp [rdN] at hx
  | n + 1, s, x, hx => by
    unfold rdN at hx
    split at hx
    · rcases List.mem_cons.1 hx with rfl | hx
      · exact h s
      · exact rdN_all h n _ x hx
    · simp at hx
theorem rL_all {one : List UInt8 → S → El × S} {l : List UInt8} {K : El → Prop} (h : ∀ s, TxOk (one l s).1 ∧ K (one l s).1) (s : S) : ∀ x ∈ (rL one l s).1, TxOk x ∧ K x := rdN_all h _ _
/-- a poll's fields, in order -/
def rdP (l : List UInt8) : Po × S :=
  let ep := rU l (0, 0)
  let sq := rU l ep.2
  let bo := rU l sq.2
  let a := rI l bo.2
  let le := rC 1073741824 l a.2
  let K := rL envRd l le.2
  let T := rL staRd l K.2
  let P := rL stoRd l T.2
  let se := rU l P.2
  (⟨ep.1, sq.1, bo.1, a.1, le.1, K.1, T.1, P.1, se.1⟩, se.2)
def rdR (l : List UInt8) : Rp × S :=
  let ep := rU l (0, 0)
  let sq := rU l ep.2
  let bo := rU l sq.2
  let a := rI l bo.2
  let H := rL helRd l a.2
  let F := rL finRd l H.2
  let R := rL refRd l F.2
  (⟨ep.1, sq.1, bo.1, a.1, H.1, F.1, R.1⟩, R.2)
def zeP : Po := ⟨0, 0, 0, 0, 0, [], [], [], 0⟩
def zeR : Rp := ⟨0, 0, 0, 0, [], [], []⟩
/-- what is heard of a poll's letter -/
def readP (b : List UInt8) : Po × Nat :=
  if (opn b [3]).2.2 ≠ 0 then (zeP, (opn b [3]).2.2)
  else if Wire.done (opn b [3]).2.1 (rdP (opn b [3]).2.1).2.1 (rdP (opn b [3]).2.1).2.2 ≠ 0 ∨ checkP (rdP (opn b [3]).2.1).1 = false then (zeP, 5)
  else ((rdP (opn b [3]).2.1).1, 0)
def readR (b : List UInt8) : Rp × Nat :=
  if (opn b [4]).2.2 ≠ 0 then (zeR, (opn b [4]).2.2)
  else if Wire.done (opn b [4]).2.1 (rdR (opn b [4]).2.1).2.1 (rdR (opn b [4]).2.1).2.2 ≠ 0 ∨ checkR (rdR (opn b [4]).2.1).1 = false then (zeR, 5)
  else ((rdR (opn b [4]).2.1).1, 0)
theorem rdP_w {w : World} {l : List UInt8} {k t s : Value} (hl : l.length ≤ 140737488351232) (hk : Row w k 5 (rdP l).1.K.length (rwC envC (rdP l).1.K)) (ht : Row w t 8 (rdP l).1.T.length (rwC staC (rdP l).1.T)) (hs : Row w s 3 (rdP l).1.P.length (rwC stoC (rdP l).1.P)) : PoW w (rdP l).1 k t s := by
  have h1 := rL_all (fun s => envRd_ok hl s)
  have h2 := rL_all (fun s => staRd_ok hl s)
  have h3 := rL_all (fun s => stoRd_ok hl s)
  refine ⟨fun x hx => (h1 _ x hx).2, fun x hx => (h2 _ x hx).2, fun x hx => (h3 _ x hx).2, ⟨rU_b _ _, rU_b _ _, rU_b _ _, rI_b _ _, ?_, rU_b _ _⟩, hk, ht, hs, fun x hx => (h1 _ x hx).1, fun x hx => (h2 _ x hx).1, fun x hx => (h3 _ x hx).1⟩
  have h9 := rC_b l (rI l (rU l (rU l (rU l (0, 0)).2).2).2).2
  show i64B (rC 1073741824 l (rI l (rU l (rU l (rU l (0, 0)).2).2).2).2).1
  unfold i64B
  omega
theorem rdR_w {w : World} {l : List UInt8} {k t s : Value} (hl : l.length ≤ 140737488351232) (hk : Row w k 4 (rdR l).1.H.length (rwC helC (rdR l).1.H)) (ht : Row w t 5 (rdR l).1.F.length (rwC finC (rdR l).1.F)) (hs : Row w s 4 (rdR l).1.R.length (rwC refC (rdR l).1.R)) : RpW w (rdR l).1 k t s := by
  have h1 := rL_all (fun s => helRd_ok hl s)
  have h2 := rL_all (fun s => finRd_ok hl s)
  have h3 := rL_all (fun s => refRd_ok hl s)
  exact ⟨fun x hx => (h1 _ x hx).2, fun x hx => (h2 _ x hx).2, fun x hx => (h3 _ x hx).2, ⟨rU_b _ _, rU_b _ _, rU_b _ _, rI_b _ _⟩, hk, ht, hs, fun x hx => (h1 _ x hx).1, fun x hx => (h2 _ x hx).1, fun x hx => (h3 _ x hx).1⟩
/-- a reader, a result's box, a box beside, all of a call's own -/
structure Gp (w0 : World) (b : Nat) (l : List UInt8) (w : World) (s : S) (R : Nat) (RC : List Value) (RT : TypeId) (X : Nat) (XC : List Value) (XT : TypeId) : Prop where
  rd : Rdr w b l s.1 s.2
  r : Blk w R RC RT
  x : Blk w X XC XT
  fr : Below w0.heap.size w0 w
  hb : w0.heap.size ≤ b ∧ b < X ∧ R ≠ b ∧ R ≠ X
  lo : w0.heap.size ≤ R ∧ w0.heap.size ≤ X
/-- a row of a call's own, above a reader and a box -/
def Ow (w : World) (b X : Nat) (T : TypeId) (n : Nat) (v : Value) (m : Nat) (C : List Value) : Prop := ∃ a, b < a ∧ X < a ∧ w.ownsRow a T n v m C
section
variable {w0 w w' : World} {b : Nat} {l : List UInt8} {s s' : S} {R X : Nat} {RC XC : List Value} {RT XT : TypeId}
theorem Gp.call (h : Gp w0 b l w s R RC RT X XC XT) (hr : Rdr w' b l s'.1 s'.2) (hf : Frp (fun k => k = b) w w') : Gp w0 b l w' s' R RC RT X XC XT :=
  ⟨hr, h.r.frp hf (fun e => by have := h.hb; omega), h.x.frp hf (fun e => by have := h.hb; omega), h.fr.trans (hf.below (fun k hk => by have := h.hb; omega) h.fr.size), h.hb, h.lo⟩
theorem Gp.setX (h : Gp w0 b l w s R RC RT X XC XT) (j : Nat) (u : Value) : Gp w0 b l (w.setCell ⟨X, j, none⟩ u) s R RC RT X (XC.set j u) XT :=
  ⟨Rdr.frp h.rd (frp_setX (Frp.refl (fun k => k = X) w) j u) (fun k hk e => by have := h.hb; omega), h.r.other (a := ⟨X, j, none⟩) h.hb.2.2.2 u, h.x.set j u, h.fr.trans ((frp_setX (Frp.refl (fun k => k = X) w) j u).below (fun k hk => by have := h.lo; omega) h.fr.size), h.hb, h.lo⟩
theorem Gp.kept (h : Gp w0 b l w s R RC RT X XC XT) (hb : Below w.heap.size w w') : Gp w0 b l w' s R RC RT X XC XT := h.call (Rdr.kept h.rd hb) (Frp.of_below hb _)
theorem gp_lt (h : Gp w0 b l w s R RC RT X XC XT) : b < w.heap.size ∧ X < w.heap.size := ⟨Rdr.lt h.rd, h.x.lt⟩
variable {T : TypeId} {n m : Nat} {v : Value} {C : List Value}
theorem Ow.call (h : Ow w b X T n v m C) (hf : Frp (fun k => k = b) w w') : Ow w' b X T n v m C := by
  obtain ⟨a, h1, h2, h3⟩ := h
  exact ⟨a, h1, h2, own_frp h3 hf (fun g hg e => by have := own_lo h3 hg; omega)⟩
theorem Ow.setX (h : Ow w b X T n v m C) (j : Nat) (u : Value) : Ow (w.setCell ⟨X, j, none⟩ u) b X T n v m C := by
  obtain ⟨a, h1, h2, h3⟩ := h
  exact ⟨a, h1, h2, own_frp h3 (frp_setX (Frp.refl (fun k => k = X) w) j u) (fun g hg e => by have := own_lo h3 hg; omega)⟩
theorem Ow.below (h : Ow w b X T n v m C) (hb : Below w.heap.size w w') : Ow w' b X T n v m C := h.call (Frp.of_below hb _)
theorem Ow.row (h : Ow w b X T n v m C) (h1 : ∀ u ∈ C, u.oneCell' = true) : Row w v n m C := by
  obtain ⟨a, -, -, h3⟩ := h
  exact row_of_owns h3 h1
end
set_option maxRecDepth 100000 in
set_option maxHeartbeats 1000000 in
theorem new_any (v : Value) (l : List UInt8) (w : World) (h : Rd w v l) (hv : ∀ c, v.ownBlock = some c → l ≠ [] → c < w.heap.size) : Calls Tryz.prog 42 #[v] w fun e w' => e = .returned (ptr w.heap.size) ∧ Rdr w' w.heap.size l 0 0 ∧ Below w.heap.size w w' := by
  obtain ⟨p, c, rfl⟩ := rd_slice h
  have H := Lib.hid h
  have HV := Lib.hid hv
  obtain ⟨n, hn⟩ : ∃ n, n = l.length := ⟨_, rfl⟩
  have HN := Lib.hid hn
  rw [← hn] at H HV ⊢
  clear h hv hn
  go_enter Tryz.func42, Tryz.ntmps42
  go_wp2
  go_ret
  refine ⟨rfl, ⟨.slice p n c, Blk.made w [.slice p n c, .int .i64 0, .int .i64 0, .bool true] _, H.out.below (below_alloc _ _), fun hl k hk => HV.out k hk hl, Nat.zero_le _⟩, below_alloc _ _⟩
end Go.Proofs.YtopkfomlppnpeaaGreatDoor.Ms
