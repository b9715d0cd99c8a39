/- MsCrc. -/
import Derived.WalkKit
import Derived.ProofKit
namespace Go.Proofs.YtopkfomlppnpeaaGreatDoor.Ms

def poly : Nat := 3988292384
def stp (s : Nat) : Nat := if s % 2 = 1 then (s / 2) ^^^ poly else s / 2
def byB (s : Nat) (c : UInt8) : Nat := stp (stp (stp (stp (stp (stp (stp (stp (s ^^^ c.toNat))))))))
def inv (s : Nat) : Nat := s ^^^ 4294967295
def more (s : Nat) (l : List UInt8) : Nat := inv (l.foldl byB (inv s))

theorem xor_lt {a b : Nat} (ha : a < 4294967296) (hb : b < 4294967296) : a ^^^ b < 4294967296 := Nat.xor_lt_two_pow (n := 32) ha hb
theorem stp_lt {s : Nat} (h : s < 4294967296) : stp s < 4294967296 := by
  unfold stp
  split
  · exact xor_lt (by omega) (by decide)
  · omega
theorem byB_lt {s : Nat} (h : s < 4294967296) (c : UInt8) : byB s c < 4294967296 := by
  unfold byB
  have hc := c.toNat_lt
  exact stp_lt (stp_lt (stp_lt (stp_lt (stp_lt (stp_lt (stp_lt (stp_lt (xor_lt h (by omega)))))))))
theorem fold_lt : ∀ (l : List UInt8) {s : Nat}, s < 4294967296 → l.foldl byB s < 4294967296
  | [], _, h => h
  | c :: l, _, h => fold_lt l (byB_lt h c)
theorem inv_lt {s : Nat} (h : s < 4294967296) : inv s < 4294967296 := xor_lt h (by decide)
theorem more_lt {s : Nat} (h : s < 4294967296) (l : List UInt8) : more s l < 4294967296 := inv_lt (fold_lt l (inv_lt h))
/-- a sum's bytes -/
def le4 (x : Nat) : List UInt8 := [UInt8.ofNat x, UInt8.ofNat (x / 256), UInt8.ofNat (x / 65536), UInt8.ofNat (x / 16777216)]
/-- four bytes as a sum -/
def num4 (l : List UInt8) : Nat := (l.getD 0 0).toNat + (l.getD 1 0).toNat * 256 + (l.getD 2 0).toNat * 65536 + (l.getD 3 0).toNat * 16777216
def hdr (kind : UInt8) (n : Nat) : List UInt8 := [kind, UInt8.ofNat n, UInt8.ofNat (n / 256), UInt8.ofNat (n / 65536)]
/-- a frame's bytes -/
def frm (kind : UInt8) (body : List UInt8) : List UInt8 :=
  hdr kind body.length ++ (le4 (more 0 (hdr kind body.length)) ++ (body ++ le4 (more (more 0 (hdr kind body.length)) body)))
def len3 (b : List UInt8) : Nat := (b.getD 1 0).toNat + (b.getD 2 0).toNat * 256 + (b.getD 3 0).toNat * 65536
/-- what is read of a frame: kind, body, bytes, error -/
def frd (b : List UInt8) : UInt8 × List UInt8 × Nat × Nat :=
  if b.length < 8 then (0, [], 0, 4)
  else if num4 (b.drop 4) ≠ more 0 (b.take 4) ∨ 1048576 < len3 b then (0, [], 0, 5)
  else if b.length < 12 + len3 b then (0, [], 0, 4)
  else if num4 (b.drop (8 + len3 b)) ≠ more (more 0 (b.take 4)) ((b.drop 8).take (len3 b)) then (0, [], 0, 5)
  else (b.getD 0 0, (b.drop 8).take (len3 b), 12 + len3 b, 0)
end Go.Proofs.YtopkfomlppnpeaaGreatDoor.Ms
