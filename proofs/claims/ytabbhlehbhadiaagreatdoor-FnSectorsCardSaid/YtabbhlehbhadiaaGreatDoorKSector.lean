/- Marks of a slice of Sector. Printed by wip/genmark.py. -/
import Derived.Test.YtabbhlehbhadiaaGreatDoorMark
import Derived.Test.YtabbhlehbhadiaaGreatDoorBase
import Derived.Test.YtabbhlehbhadiaaGreatDoorTSector
namespace Go.Proofs.YtabbhlehbhadiaaGreatDoor
open Go.RowKit Go.Sort
set_option maxRecDepth 100000

def marksSector (m : Int) (n : Nat) : List SectorD := (List.range n).map fun (i : Nat) => ⟨m + 3 * (i : Int), m + 3 * (i : Int) + 1, mkB (m + 3 * (i : Int) + 1 + 1)⟩
@[simp] theorem marksSector_len (m : Int) (n : Nat) : (marksSector m n).length = n := by simp [marksSector]
theorem marksSector_get {m : Int} {n k : Nat} (h : k < (marksSector m n).length) : (marksSector m n)[k] = ⟨m + 3 * (k : Int), m + 3 * (k : Int) + 1, mkB (m + 3 * (k : Int) + 1 + 1)⟩ := by simp [marksSector]
end Go.Proofs.YtabbhlehbhadiaaGreatDoor
