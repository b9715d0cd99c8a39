/- MsEnc. -/
import Derived.Test.YtopkfomlppnpeaaGreatDoorMEl
import Derived.Test.YtopkfomlppnpeaaGreatDoorMPl
namespace Go.Proofs.YtopkfomlppnpeaaGreatDoor.Ms
open Go.RowKit Go.Proofs.YtopkfomlppnpeaaGreatDoor

/-- a number, a text, amounts, a task with its incarnation -/
def eU (x : Int) : List UInt8 := Wire.enc x.toNat
def eI (x : Int) : List UInt8 := Wire.enc (Wire.zig x)
def eT (s : List UInt8) : List UInt8 := Wire.enc s.length ++ s
def eA (a : Am) : List UInt8 := eI a.c ++ (eI a.r ++ (eI a.d ++ eI a.p))
def eK (x : El) : List UInt8 := eT x.j ++ (eU x.i ++ eU x.n)
def envE (x : El) : List UInt8 := eT x.j ++ eA x.a
def staE (x : El) : List UInt8 := eK x ++ (eA x.a ++ eT x.s)
def stoE (x : El) : List UInt8 := eK x
def helE (x : El) : List UInt8 := eK x ++ eU x.q
def finE (x : El) : List UInt8 := eU x.k ++ (eK x ++ eU x.q)
def refE (x : El) : List UInt8 := eK x ++ eU x.q
def eL (enc : El → List UInt8) (L : List El) : List UInt8 := eU L.length ++ L.flatMap enc
def bodyP (p : Po) : List UInt8 := eU p.ep ++ (eU p.sq ++ (eU p.bo ++ (eI p.at_ ++ (eU p.le ++ (eL envE p.K ++ (eL staE p.T ++ (eL stoE p.P ++ eU p.se)))))))
def bodyR (p : Rp) : List UInt8 := eU p.ep ++ (eU p.sq ++ (eU p.bo ++ (eI p.at_ ++ (eL helE p.H ++ (eL finE p.F ++ eL refE p.R)))))
theorem eU_len (x : Int) : (eU x).length ≤ 10 := Wire.enc_len _
theorem eI_len (x : Int) : (eI x).length ≤ 10 := Wire.enc_len _
theorem eT_len (s : List UInt8) : (eT s).length ≤ 10 + s.length := by unfold eT; rw [List.length_append]; have := Wire.enc_len s.length; omega
theorem eA_len (a : Am) : (eA a).length ≤ 40 := by unfold eA; simp only [List.length_append]; have := eI_len a.c; have := eI_len a.r; have := eI_len a.d; have := eI_len a.p; omega
theorem eK_len (x : El) : (eK x).length ≤ 30 + x.j.length := by unfold eK; simp only [List.length_append]; have := eT_len x.j; have := eU_len x.i; have := eU_len x.n; omega
/-- an element that may be, as far as its bytes go -/
structure Ft (x : El) : Prop where
  j : x.j.length ≤ 100
  s : x.s.length ≤ 100
  i : 0 ≤ x.i ∧ x.i < 64
  n : 0 ≤ x.n ∧ x.n < 18446744073709551616
  q : 0 ≤ x.q ∧ x.q ≤ 258
  k : 0 ≤ x.k ∧ x.k < 18446744073709551616
  a : x.a.okB = true
theorem enc_small {x : El} (h : Ft x) : (envE x).length ≤ 300 ∧ (staE x).length ≤ 300 ∧ (stoE x).length ≤ 300 ∧ (helE x).length ≤ 300 ∧ (finE x).length ≤ 300 ∧ (refE x).length ≤ 300 := by
  have h1 := eT_len x.j
  have h2 := eT_len x.s
  have h3 := eA_len x.a
  have h4 := eK_len x
  have h5 := eU_len x.q
  have h6 := eU_len x.k
  have h7 := h.j
  have h8 := h.s
  refine ⟨?_, ?_, ?_, ?_, ?_, ?_⟩
  · unfold envE; simp only [List.length_append]; omega
  · unfold staE; simp only [List.length_append]; omega
  · unfold stoE; omega
  · unfold helE; simp only [List.length_append]; omega
  · unfold finE; simp only [List.length_append]; omega
  · unfold refE; simp only [List.length_append]; omega
theorem flat_len {enc : El → List UInt8} : ∀ (L : List El), (∀ x ∈ L, (enc x).length ≤ 300) → (L.flatMap enc).length ≤ L.length * 300
  | [], _ => by simp
  | x :: L, h => by
    rw [List.flatMap_cons, List.length_append, List.length_cons]
    have := flat_len L (fun y hy => h y (by simp [hy]))
    have := h x (by simp)
    omega
end Go.Proofs.YtopkfomlppnpeaaGreatDoor.Ms
