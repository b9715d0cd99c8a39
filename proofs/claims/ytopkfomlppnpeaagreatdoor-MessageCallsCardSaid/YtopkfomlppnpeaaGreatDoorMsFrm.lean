/- MsFrm. -/
import Derived.Test.YtopkfomlppnpeaaGreatDoorMsCrc
namespace Go.Proofs.YtopkfomlppnpeaaGreatDoor.Ms

theorem le4_len (x : Nat) : (le4 x).length = 4 := rfl
theorem hdr_len (k : UInt8) (n : Nat) : (hdr k n).length = 4 := rfl
theorem frm_len (k : UInt8) (b : List UInt8) : (frm k b).length = 12 + b.length := by unfold frm; simp [le4_len, hdr_len]; omega
end Go.Proofs.YtopkfomlppnpeaaGreatDoor.Ms
