/- Marks of a slice of numbers. -/
import Derived.Test.YtabbhlehbhadiaaDoorMark
import Derived.Test.YtabbhlehbhadiaaDoorTTide
namespace Go.Proofs.YtabbhlehbhadiaaDoor
open Go.RowKit
set_option maxRecDepth 100000

def marks (k : Int) (n : Nat) : List Int := (List.range n).map (fun (i : Nat) => k + (i : Int))
@[simp] theorem marks_len (k : Int) (n : Nat) : (marks k n).length = n := by simp [marks]
theorem marks_get {k : Int} {n i : Nat} (h : i < (marks k n).length) : (marks k n)[i] = k + i := by simp [marks]
end Go.Proofs.YtabbhlehbhadiaaDoor
