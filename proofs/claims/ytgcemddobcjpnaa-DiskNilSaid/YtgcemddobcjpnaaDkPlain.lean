/- A disk, in plain Lean: what each call answers, and what it leaves. -/
import Derived.Test.YtgcemddobcjpnaaKl
namespace Go.Proofs.Ytgcemddobcjpnaa
open Go.RowKit

structure Fl where
  n : ByteArray
  b : List UInt8
  s : Nat
namespace Fl
def key (f : Fl) : List UInt8 := f.n.data.toList
end Fl
structure Dk where
  room : Int
  F : List Fl
  fused : Bool
  fuse : Int
  off : Bool
  steps : Int

def nameB (s : ByteArray) : Bool := decide (1 ≤ s.size) && (decide (s.size ≤ 24) && s.data.toList.all fun c => decide (33 ≤ c.toNat) && decide (c.toNat ≤ 126))
namespace Dk
def get (D : Dk) (s : ByteArray) : Option Fl := kfnd Fl.key D.F s.data.toList
def ask (D : Dk) (l : List ByteArray) : Int := if D.off = true then 10 else if l.all nameB = true then 0 else 2
/-- may a step be done -/
def may (D : Dk) : Bool := !(D.fused && decide (D.fuse = 0))
def stepped (D : Dk) : Dk := { D with fuse := if D.fused = true then D.fuse - 1 else D.fuse, steps := D.steps + 1 }
def dead (D : Dk) : Dk := { D with off := true }
def withF (D : Dk) (F : List Fl) : Dk := { D with F := F }
def put (D : Dk) (f : Fl) : Dk := D.withF (kput Fl.key D.F f)
def cut (D : Dk) (s : ByteArray) : Dk := D.withF (krem Fl.key D.F s.data.toList)
def bytes (F : List Fl) : Int := (F.map fun f => (f.b.length : Int)).sum
def left (D : Dk) : Int := D.room - bytes D.F

def make (D : Dk) (s : ByteArray) : Int × Dk :=
  if D.ask [s] ≠ 0 then (D.ask [s], D) else
  if (D.get s).isSome = true then (7, D) else
  if D.may = true then (0, D.stepped.put ⟨s, [], 0⟩) else (10, D.dead)
def addB (D : Dk) (f : Fl) (l : List UInt8) : Dk := D.put { f with b := f.b ++ l }
/-- the bytes, piece by piece, behind a file's end -/
def more : Nat → Dk → Fl → List UInt8 → Int × Dk
  | 0, D, _, _ => (0, D)
  | n + 1, D, f, l => if l = [] then (0, D) else if D.may = true then more n (D.stepped.addB f (l.take 64)) { f with b := f.b ++ l.take 64 } (l.drop 64) else (10, D.dead)
def append (D : Dk) (s : ByteArray) (l : List UInt8) : Int × Dk :=
  if D.ask [s] ≠ 0 then (D.ask [s], D) else
  match D.get s with
  | none => (6, D)
  | some f => if D.left < (l.length : Int) then (8, D) else more (l.length + 1) D f l
def sync (D : Dk) (s : ByteArray) : Int × Dk :=
  if D.ask [s] ≠ 0 then (D.ask [s], D) else
  match D.get s with
  | none => (6, D)
  | some f => if D.may = true then (0, D.stepped.put { f with s := f.b.length }) else (10, D.dead)
def rename (D : Dk) (s t : ByteArray) : Int × Dk :=
  if D.ask [s, t] ≠ 0 then (D.ask [s, t], D) else
  match D.get s with
  | none => (6, D)
  | some f => if s = t then (0, D) else if D.may = true then (0, (D.stepped.cut s).put { f with n := t }) else (10, D.dead)
def remove (D : Dk) (s : ByteArray) : Int × Dk :=
  if D.ask [s] ≠ 0 then (D.ask [s], D) else
  match D.get s with
  | none => (6, D)
  | some _ => if D.may = true then (0, D.stepped.cut s) else (10, D.dead)
def setFuse (D : Dk) (n : Int) : Int × Dk :=
  if D.off = true then (10, D) else if n < 0 then (2, D) else (0, { D with fused := true, fuse := n })
def free (D : Dk) : Dk := { D with fused := false, fuse := 0 }
/-- how many more of a file's bytes stay -/
def keepN (keep : List Int) (i : Nat) (f : Fl) : Nat := match keep[i]? with | some n => min n.toNat (f.b.length - f.s) | none => 0
def keepF (keep : List Int) (i : Nat) (f : Fl) : Fl := { f with s := f.s + keepN keep i f, b := f.b.take (f.s + keepN keep i f) }
def fine (keep : List Int) : Bool := keep.all fun n => decide (0 ≤ n)
def crash (D : Dk) (keep : List Int) : Int × Dk :=
  if fine keep = true then (0, { (D.withF (D.F.mapIdx (keepF keep))).free with off := false }) else (2, D)
def turned (f : Fl) (at_ : Nat) (c : UInt8) : Fl := { f with b := f.b.modify at_ (· ^^^ c) }
def turn (D : Dk) (s : ByteArray) (at_ : Int) (c : UInt8) : Int × Dk :=
  if nameB s = true then
    match D.get s with
    | none => (6, D)
    | some f => if 0 ≤ at_ ∧ at_ < (f.b.length : Int) then (0, D.put (turned f at_.toNat c)) else (6, D)
  else (2, D)
def read (D : Dk) (s : ByteArray) : Int × List UInt8 :=
  if D.ask [s] ≠ 0 then (D.ask [s], []) else
  match D.get s with
  | none => (6, [])
  | some f => (0, f.b)
def synced (D : Dk) (s : ByteArray) : Int × Int :=
  if D.ask [s] ≠ 0 then (D.ask [s], 0) else
  match D.get s with
  | none => (6, 0)
  | some f => (0, (f.s : Int))
def names (D : Dk) : List ByteArray := if D.off = true then [] else D.F.map Fl.n
def leftP (D : Dk) : Int := if D.off = true then 0 else D.left
end Dk
end Go.Proofs.Ytgcemddobcjpnaa
