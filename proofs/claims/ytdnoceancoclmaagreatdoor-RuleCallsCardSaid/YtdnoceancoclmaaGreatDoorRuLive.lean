/- RuLive. -/
import Derived.Test.YtdnoceancoclmaaGreatDoorRuHoldP
import Derived.ProofKit
namespace Go.Proofs.YtdnoceancoclmaaGreatDoor.Ru
open Go.RowKit Go.Proofs.YtdnoceancoclmaaGreatDoor

def liveS : List UInt8 := [97, 114, 99, 104, 61, 120, 56, 54, 32, 38, 32, 33, 40, 122, 111, 110, 101, 32, 61, 32, 97, 32, 124, 32, 103, 112, 117, 41]
def liveT : List UInt8 := [97, 114, 99, 104, 61, 120, 56, 54, 32, 38, 32, 33, 40, 122, 111, 110, 101, 61, 97, 32, 124, 32, 103, 112, 117, 41]
def liveL : List Nd := [⟨2, [97, 114, 99, 104], [120, 56, 54], 0, -1, -1⟩, ⟨2, [122, 111, 110, 101], [97], 0, -1, -1⟩, ⟨6, [103, 112, 117], [], 0, -1, -1⟩, ⟨9, [], [], 0, 1, 2⟩, ⟨7, [], [], 0, 3, -1⟩, ⟨8, [], [], 0, 0, 4⟩]
theorem live_parse : parseP liveS = .ok liveL := by kernel_rfl
theorem live_told : toldA liveL = liveT := by kernel_rfl
end Go.Proofs.YtdnoceancoclmaaGreatDoor.Ru
