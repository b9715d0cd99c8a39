/- MsCrc. -/
import Derived.WalkKit
import Derived.ProofKit
namespace Go.Proofs.YtopkfomlppnpeaaGreatDoor.Ms

def poly : Nat := 3988292384
def stp (s : Nat) : Nat := if s % 2 = 1 then (s / 2) ^^^ poly else s / 2
def byB (s : Nat) (c : UInt8) : Nat := stp (stp (stp (stp (stp (stp (stp (stp (s ^^^ c.toNat))))))))
def inv (s : Nat) : Nat := s ^^^ 4294967295
def more (s : Nat) (l : List UInt8) : Nat := inv (l.foldl byB (inv s))

theorem xor_lt {a b : Nat} (ha : a < 4294967296) (hb : b < 4294967296) : a ^^^ b < 4294967296 := Nat.xor_lt_two_pow (n := 32) ha hb
theorem xor_half (a b : Nat) : (a ^^^ b) / 2 = (a / 2) ^^^ (b / 2) := by
  apply Nat.eq_of_testBit_eq
  intro i
  rw [Nat.testBit_xor, Nat.testBit_div_two, Nat.testBit_div_two, Nat.testBit_div_two, Nat.testBit_xor]
theorem stp_lt {s : Nat} (h : s < 4294967296) : stp s < 4294967296 := by
  unfold stp
  split
  · exact xor_lt (by omega) (by decide)
  · omega
theorem byB_lt {s : Nat} (h : s < 4294967296) (c : UInt8) : byB s c < 4294967296 := by
  unfold byB
  have hc := c.toNat_lt
  exact stp_lt (stp_lt (stp_lt (stp_lt (stp_lt (stp_lt (stp_lt (stp_lt (xor_lt h (by omega)))))))))
theorem fold_lt : ∀ (l : List UInt8) {s : Nat}, s < 4294967296 → l.foldl byB s < 4294967296
  | [], _, h => h
  | c :: l, _, h => fold_lt l (byB_lt h c)
theorem inv_lt {s : Nat} (h : s < 4294967296) : inv s < 4294967296 := xor_lt h (by decide)
theorem more_lt {s : Nat} (h : s < 4294967296) (l : List UInt8) : more s l < 4294967296 := inv_lt (fold_lt l (inv_lt h))
theorem xor_cancel {a b c : Nat} (h : a ^^^ c = b ^^^ c) : a = b := by
  have := congrArg (· ^^^ c) h
  simpa [Nat.xor_assoc] using this
theorem inv_inj {a b : Nat} (h : inv a = inv b) : a = b := xor_cancel h
theorem stp_inj {a b : Nat} (ha : a < 4294967296) (hb : b < 4294967296) (h : stp a = stp b) : a = b := by
  have top : ∀ {x : Nat}, x < 2147483648 → 2147483648 ≤ x ^^^ poly := fun {x} hx => by
    have h1 : (x ^^^ poly).testBit 31 = true := by
      rw [Nat.testBit_xor, Nat.testBit_lt_two_pow (by simpa using hx), show poly.testBit 31 = true from by decide]
      rfl
    have := Nat.ge_two_pow_of_testBit h1
    simpa using this
  unfold stp at h
  by_cases h1 : a % 2 = 1
  · by_cases h2 : b % 2 = 1
    · rw [if_pos h1, if_pos h2] at h
      have := xor_cancel h
      omega
    · rw [if_pos h1, if_neg h2] at h
      have := top (x := a / 2) (by omega)
      omega
  · by_cases h2 : b % 2 = 1
    · rw [if_neg h1, if_pos h2] at h
      have := top (x := b / 2) (by omega)
      omega
    · rw [if_neg h1, if_neg h2] at h
      omega
theorem byB_inj {a b : Nat} (ha : a < 4294967296) (hb : b < 4294967296) {c d : UInt8} (h : byB a c = byB b d) : a ^^^ c.toNat = b ^^^ d.toNat := by
  have hc := c.toNat_lt
  have hd := d.toNat_lt
  have h1 : a ^^^ c.toNat < 4294967296 := xor_lt ha (by omega)
  have h2 : b ^^^ d.toNat < 4294967296 := xor_lt hb (by omega)
  unfold byB at h
  have e7 := stp_inj (stp_lt (stp_lt (stp_lt (stp_lt (stp_lt (stp_lt (stp_lt h1))))))) (stp_lt (stp_lt (stp_lt (stp_lt (stp_lt (stp_lt (stp_lt h2))))))) h
  have e6 := stp_inj (stp_lt (stp_lt (stp_lt (stp_lt (stp_lt (stp_lt h1)))))) (stp_lt (stp_lt (stp_lt (stp_lt (stp_lt (stp_lt h2)))))) e7
  have e5 := stp_inj (stp_lt (stp_lt (stp_lt (stp_lt (stp_lt h1))))) (stp_lt (stp_lt (stp_lt (stp_lt (stp_lt h2))))) e6
  have e4 := stp_inj (stp_lt (stp_lt (stp_lt (stp_lt h1)))) (stp_lt (stp_lt (stp_lt (stp_lt h2)))) e5
  have e3 := stp_inj (stp_lt (stp_lt (stp_lt h1))) (stp_lt (stp_lt (stp_lt h2))) e4
  have e2 := stp_inj (stp_lt (stp_lt h1)) (stp_lt (stp_lt h2)) e3
  have e1 := stp_inj (stp_lt h1) (stp_lt h2) e2
  exact stp_inj h1 h2 e1
theorem fold_inj : ∀ (l : List UInt8) {a b : Nat}, a < 4294967296 → b < 4294967296 → l.foldl byB a = l.foldl byB b → a = b
  | [], _, _, _, _, h => h
  | c :: l, a, b, ha, hb, h => xor_cancel (byB_inj ha hb (fold_inj l (byB_lt ha c) (byB_lt hb c) h))
/-- a byte that is turned turns the sum -/
theorem more_turn {s : Nat} (hs : s < 4294967296) {l : List UInt8} {k : Nat} (hk : k < l.length) {c : UInt8} (hc : c ≠ l[k]) : more s (l.set k c) ≠ more s l := fun h => by
  have h1 := inv_inj h
  have e1 : l.set k c = l.take k ++ c :: l.drop (k + 1) := List.set_eq_take_append_cons_drop (l := l) (i := k) (a := c) ▸ (by rw [if_pos hk])
  have e2 : l = l.take k ++ l[k] :: l.drop (k + 1) := by rw [List.getElem_cons_drop]; simp
  rw [e1] at h1
  have h2 : (l.take k ++ c :: l.drop (k + 1)).foldl byB (inv s) = (l.take k ++ l[k] :: l.drop (k + 1)).foldl byB (inv s) := by rw [h1]; exact congrArg (fun x => x.foldl byB (inv s)) e2
  rw [List.foldl_append, List.foldl_append, List.foldl_cons, List.foldl_cons] at h2
  have hp := fold_lt (l.take k) (inv_lt hs)
  have h3 := byB_inj hp hp (fold_inj _ (byB_lt hp _) (byB_lt hp _) h2)
  have h4 : c.toNat = (l[k]).toNat := by
    rw [Nat.xor_comm, Nat.xor_comm _ (l[k]).toNat] at h3
    exact xor_cancel h3
  exact hc (UInt8.toNat_inj.1 h4)

/-- a sum's bytes -/
def le4 (x : Nat) : List UInt8 := [UInt8.ofNat x, UInt8.ofNat (x / 256), UInt8.ofNat (x / 65536), UInt8.ofNat (x / 16777216)]
/-- four bytes as a sum -/
def num4 (l : List UInt8) : Nat := (l.getD 0 0).toNat + (l.getD 1 0).toNat * 256 + (l.getD 2 0).toNat * 65536 + (l.getD 3 0).toNat * 16777216
theorem num4_le4 {x : Nat} (h : x < 4294967296) (r : List UInt8) : num4 (le4 x ++ r) = x := by
  unfold num4 le4
  simp
  omega
def hdr (kind : UInt8) (n : Nat) : List UInt8 := [kind, UInt8.ofNat n, UInt8.ofNat (n / 256), UInt8.ofNat (n / 65536)]
/-- a frame's bytes -/
def frm (kind : UInt8) (body : List UInt8) : List UInt8 :=
  hdr kind body.length ++ (le4 (more 0 (hdr kind body.length)) ++ (body ++ le4 (more (more 0 (hdr kind body.length)) body)))
def len3 (b : List UInt8) : Nat := (b.getD 1 0).toNat + (b.getD 2 0).toNat * 256 + (b.getD 3 0).toNat * 65536
/-- what is read of a frame: kind, body, bytes, error -/
def frd (b : List UInt8) : UInt8 × List UInt8 × Nat × Nat :=
  if b.length < 8 then (0, [], 0, 4)
  else if num4 (b.drop 4) ≠ more 0 (b.take 4) ∨ 1048576 < len3 b then (0, [], 0, 5)
  else if b.length < 12 + len3 b then (0, [], 0, 4)
  else if num4 (b.drop (8 + len3 b)) ≠ more (more 0 (b.take 4)) ((b.drop 8).take (len3 b)) then (0, [], 0, 5)
  else (b.getD 0 0, (b.drop 8).take (len3 b), 12 + len3 b, 0)
end Go.Proofs.YtopkfomlppnpeaaGreatDoor.Ms
